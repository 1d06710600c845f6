import Derived.Test.YtaciigegbgnadaaIR
import Derived.Test.YtaciigegbgnadaaIS
import Derived.Test.YtaciigegbgnadaaHD
import Derived.Test.YtaciigegbgnadaaIE
import Derived.Test.YtaciigegbgnadaaID
import Derived.Test.YtaciigegbgnadaaHF
/- The reference: limits; the first part that may be over, the first hanger that may be slack. -/
namespace Go.Proofs.Ytaciigegbgnadaa
open Go Tx Go.RowKit
set_option linter.unusedSimpArgs false
set_option linter.unusedVariables false

/-- What a part may bear. -/
def limP (PP : List Int) (BB : List Bm) (b a : Int) : Int := if b = -1 then PP.getD a.toNat 0 else capN BB b.toNat
theorem find_rng (p : Int × Int → Bool) (f : Nat → Int × Int) : ∀ n k, ((List.range' k n).map f).find? p = if fstN (fun j => p (f j)) n k < k + n then some (f (fstN (fun j => p (f j)) n k)) else none
  | 0, k => by simp [fstN]
  | n + 1, k => by
    rw [List.range'_succ, List.map_cons, List.find?_cons]
    unfold fstN
    cases h : p (f k)
    · simp only [Bool.false_eq_true, if_false]
      rw [find_rng p f n (k + 1), show k + 1 + n = k + (n + 1) from by omega]
    · simp only [if_true]
      rw [if_pos (by omega)]
theorem find_hgs (p : Int × Int → Bool) : ∀ n i, ((List.range' i n).flatMap fun i : Nat => [((i : Int), (0 : Int)), ((i : Int), 1)]).find? p = (hgS (fun i k => p ((i : Int), (k : Int))) n i).map fun q => ((q.1 : Int), (q.2 : Int))
  | 0, i => rfl
  | n + 1, i => by
    rw [List.range'_succ, List.flatMap_cons, hgS]
    simp only [List.cons_append, List.nil_append, List.find?_cons]
    rw [find_hgs p n (i + 1)]
    show (match p ((i : Int), 0) with | true => _ | false => _) = _
    cases h0 : p ((i : Int), 0)
    · rw [if_neg (by simp)]
      dsimp only
      cases h1 : p ((i : Int), 1)
      · rw [if_neg (by simp)]
      · rw [if_pos rfl]; rfl
    · rw [if_pos rfl]; rfl
theorem find_prL (p : Int × Int → Bool) (n m : Nat) : (prL n m).find? p = if fstN (fun j => p (-1, (j : Int))) n 0 < n then some (-1, (fstN (fun j => p (-1, (j : Int))) n 0 : Int)) else (hgO (fun i k => p ((i : Int), (k : Int))) m).map fun q => ((q.1 : Int), (q.2 : Int)) := by
  have h1 := find_rng p (fun j => (-1, (j : Int))) n 0
  have h2 := find_hgs p m 0
  rw [← List.range_eq_range'] at h1 h2
  unfold prL prP prH
  rw [List.find?_append, h1, h2, Nat.zero_add]
  split
  · rfl
  · rfl
theorem hgS_congr {is is' : Nat → Nat → Bool} (h : ∀ i k, is i k = is' i k) : ∀ n i, hgS is n i = hgS is' n i
  | 0, _ => rfl
  | n + 1, i => by rw [hgS, hgS, h, h, hgS_congr h n (i + 1)]
theorem rowP_p' (F : Fr) (j : Nat) : rowP F (-1) j = F.p j := funext fun c => ob_p F c j
theorem rowP_h' (F : Fr) (j k : Nat) : rowP F j k = F.h j k := funext fun c => ob_h F c j k
def ovQ (r : Rig) (PP : List Int) (BB : List Bm) (LL : List Ld) (F : Fr) (q : Int × Int) : Bool := decide (endD r LL (rowP F q.1 q.2) true > limP PP BB q.1 q.2 * 216000)
def slQ (r : Rig) (LL : List Ld) (F : Fr) (q : Int × Int) : Bool := decide (q.1 ≥ 0) && decide (endD r LL (rowP F q.1 q.2) false < 0)
def wkP (F : Fr) (o : Option (Int × Int)) : Wk := o.map fun q => (q.1, q.2, rowP F q.1 q.2)
theorem ovO_find (r : Rig) (PP : List Int) (BB : List Bm) (LL : List Ld) (F : Fr) : ovO r PP BB LL F = wkP F ((prL PP.length BB.length).find? (ovQ r PP BB LL F)) := by
  have e1 : (fun j : Nat => ovQ r PP BB LL F (-1, (j : Int))) = fun j => decide (endD r LL (F.p j) true > PP.getD j 0 * 216000) := funext fun j => by
    unfold ovQ limP
    rw [if_pos rfl, rowP_p', Int.toNat_natCast]
  have e2 : ∀ i k : Nat, ovQ r PP BB LL F ((i : Int), (k : Int)) = decide (endD r LL (F.h i k) true > capN BB i * 216000) := fun i k => by
    unfold ovQ limP
    rw [if_neg (by show ¬ (i : Int) = -1; omega), rowP_h', Int.toNat_natCast]
  rw [find_prL, e1]
  unfold ovO hgO
  rw [hgS_congr e2 BB.length 0]
  show (if ovF r PP LL F < PP.length then _ else _) = wkP F (if ovF r PP LL F < PP.length then some (-1, (ovF r PP LL F : Int)) else _)
  split
  · show _ = some (-1, (ovF r PP LL F : Int), rowP F (-1) (ovF r PP LL F)); rw [rowP_p']
  · unfold hgW wkP
    rw [Option.map_map]
    refine congrArg (fun f => Option.map f _) (funext fun q => ?_)
    show _ = ((q.1 : Int), (q.2 : Int), rowP F q.1 q.2)
    rw [rowP_h']
theorem slO_find (r : Rig) (PP : List Int) (BB : List Bm) (LL : List Ld) (F : Fr) : slO r BB LL F = wkP F ((prL PP.length BB.length).find? (slQ r LL F)) := by
  have e2 : ∀ i k : Nat, slQ r LL F ((i : Int), (k : Int)) = decide (endD r LL (F.h i k) false < 0) := fun i k => by
    unfold slQ
    rw [rowP_h', decide_eq_true (show (i : Int) ≥ 0 by omega), Bool.true_and]
  have e3 : ¬ fstN (fun j : Nat => slQ r LL F (-1, (j : Int))) PP.length 0 < PP.length := fun h => by
    have := (fstN_spec (p := fun j : Nat => slQ r LL F (-1, (j : Int))) PP.length 0).2.2.2 (by omega)
    simp [slQ] at this
  rw [find_prL, if_neg e3]
  unfold slO hgO
  rw [hgS_congr e2 BB.length 0]
  unfold hgW wkP
  rw [Option.map_map]
  refine congrArg (fun f => Option.map f _) (funext fun q => ?_)
  show _ = ((q.1 : Int), (q.2 : Int), rowP F q.1 q.2)
  rw [rowP_h']

set_option maxRecDepth 100000 in
theorem Limit_ok (r : Rig) (PP : List Int) (BB : List Bm) (LL : List Ld) (b a : Int) (w : World) (h : RigX r PP BB LL w) (hr : rigOk r.f0 r.f1 r.f2 PP BB LL = true) (hp : partOk PP.length BB.length b a) :
    Calls Try.prog 47 #[r.v, .agg #[iv b, iv a]] w fun e w' => e = .returned (iv (limP PP BB b a * 216000)) ∧ Below w.heap.size w w' := by
  have hri := rigOk_iff.1 hr
  have hpn := h.pn
  have hbn := h.bn
  have hP := h.p
  have hB := h.b
  obtain ⟨po, pn, pc, bo, bn, bc, f0, f1, f2, lo, ln, lc⟩ := r
  dsimp only at hpn hbn hP hB
  subst hpn
  subst hbn
  refine calls_val env mixed Try.func47 has47 Try.ntmps47 [.agg #[.slice po PP.length pc, .slice bo BB.length bc, iv f0, iv f1, iv f2, .slice lo ln lc], .agg #[iv b, iv a]] (by simp) ?_
  unfold limP
  have hm12 : BB.length ≤ 12 := hri.2.2.1
  rcases hp with ⟨rfl, h1, h2⟩ | ⟨h1, h2, h3, h4⟩
  · obtain ⟨k, rfl⟩ := Int.eq_ofNat_of_zero_le h1
    obtain ⟨n, hn⟩ : ∃ n, PP[k]? = some n := ⟨_, List.getElem?_eq_getElem (by omega)⟩
    have hnb := List.all_eq_true.1 hri.2.1 n (List.mem_of_getElem? hn)
    rw [inB_iff] at hnb
    obtain ⟨_, ad, rfl, _⟩ := hP.ptr (by omega)
    have e0 := fun (w' : World) (hw' : Below w.heap.size w w') => rd_ati (hP.below hw') hn
    rw [if_pos rfl, Int.toNat_natCast, List.getD_eq_getElem?_getD, hn, Option.getD_some]
    repeat'
     conv => whnf
     first
      | refine zA ?_ | refine zB ?_ | refine zC ?_ | refine zD ?_ | refine zE ?_ | refine zF ?_ | refine zG ?_ | refine zH ?_ | refine zI ?_ | refine splT ?_ | refine splF ?_ | refine splNot ?_
      | ((first | refine splIn (fun hc => ?_) (fun hc => ?_) | refine splD (fun hc => ?_) (fun hc => ?_) | refine splE (fun hc => ?_) (fun hc => ?_) | refine splNE (fun hc => ?_) (fun hc => ?_)) <;> first | (exfalso; omega) | (exfalso; dsimp only at hc; omega) | skip)
      | refine Exists.intro (α := List Value) [iv n] ⟨⟨rfl, fun w' hw' => e0 w' hw'⟩, ?_⟩
    all_goals first | (exfalso; omega) | exact ⟨fun β => rfl, fun w' h => h⟩
  · obtain ⟨k, rfl⟩ := Int.eq_ofNat_of_zero_le h1
    obtain ⟨m, hm⟩ : ∃ m, BB[k]? = some m := ⟨_, List.getElem?_eq_getElem (by omega)⟩
    have hmb := (bmOk_iff.1 (bm_at hr hm)).2.2.2.2.2.2
    obtain ⟨_, ad, rfl, _⟩ := hB.ptr (by omega)
    have e0 := fun (w' : World) (hw' : Below w.heap.size w w') => rd_fld (hB.below hw') hm 7 (iv m.cap) rfl
    rw [if_neg (by omega), Int.toNat_natCast, show capN BB k = m.cap from by unfold capN; rw [hm]]
    generalize m.cap = x at *
    repeat'
     conv => whnf
     first
      | refine zA ?_ | refine zB ?_ | refine zC ?_ | refine zD ?_ | refine zE ?_ | refine zF ?_ | refine zG ?_ | refine zH ?_ | refine zI ?_ | refine splT ?_ | refine splF ?_ | refine splNot ?_
      | ((first | refine splIn (fun hc => ?_) (fun hc => ?_) | refine splD (fun hc => ?_) (fun hc => ?_) | refine splE (fun hc => ?_) (fun hc => ?_) | refine splNE (fun hc => ?_) (fun hc => ?_)) <;> first | (exfalso; omega) | (exfalso; dsimp only at hc; omega) | skip)
      | refine Exists.intro (α := List Value) [iv x] ⟨⟨rfl, fun w' hw' => e0 w' hw'⟩, ?_⟩
    all_goals first | (exfalso; omega) | exact ⟨fun β => rfl, fun w' h => h⟩
end Go.Proofs.Ytaciigegbgnadaa

/- The reference: Over, Slack. By IW.py. -/
namespace Go.Proofs.Ytaciigegbgnadaa
open Go Tx Go.RowKit
set_option linter.unusedSimpArgs false
set_option linter.unusedVariables false

set_option maxHeartbeats 16000000 in
set_option maxRecDepth 100000 in
theorem OverR_ok (r : Rig) (PP : List Int) (BB : List Bm) (LL : List Ld) (w : World) (hX : RigX r PP BB LL w) (hr : rigOk r.f0 r.f1 r.f2 PP BB LL = true) :
    Calls Try.prog 43 #[r.v] w fun e w' => ∃ y : Option Addr × Nat, e = .returned (.tuple #[.agg #[iv (ovO r PP BB LL (frF BB LL)).b, iv (ovO r PP BB LL (frF BB LL)).a], sV ((ovO r PP BB LL (frF BB LL)).pl r LL true).length y, .bool (ovO r PP BB LL (frF BB LL)).isSome]) ∧ Below w.heap.size w w' ∧
      St w.heap.size (Rd 1 iF (sV ((ovO r PP BB LL (frF BB LL)).pl r LL true).length y) ((ovO r PP BB LL (frF BB LL)).pl r LL true)) w' := by
  have hri := rigOk_iff.1 hr
  have hpn := hX.pn
  have hbn := hX.bn
  have hm12 : BB.length ≤ 12 := hri.2.2.1
  have hP12 : 1 ≤ PP.length ∧ PP.length ≤ 12 := by omega
  have h39 := fun (w' : World) => Parts_ok r w' (by omega) (by omega)
  rw [hpn, hbn] at h39
  have hQl := prL_len PP.length BB.length
  have hQok := fun (k : Nat) (q : Int × Int) => prL_ok (n := PP.length) (m := BB.length) (k := k) (q := q)
  have hWo := fun (b a : Int) (w' : World) (hb : Below w.heap.size w w') hp hne => Witness_own r PP BB LL b a true w' (hX.below hb) hr hp hne
  have hWn := fun (b a : Int) (w' : World) (hb : Below w.heap.size w w') hp hne => Witness_nil r PP BB LL b a true w' (hX.below hb) hr hp hne
  have hEl := fun x => endL_len r x true LL
  have hLim := fun (b a : Int) (w' : World) (hb : Below w.heap.size w w') hp => Limit_ok r PP BB LL b a w' (hX.below hb) hr hp
  rw [ovO_find]
  have hfd : ∀ k, k ≤ (prL PP.length BB.length).length → (∀ j q, j < k → (prL PP.length BB.length)[j]? = some q → ovQ r PP BB LL (frF BB LL) q = false) → (prL PP.length BB.length).find? (ovQ r PP BB LL (frF BB LL)) = ((prL PP.length BB.length).drop k).find? (ovQ r PP BB LL (frF BB LL)) := fun k hk hj => by
    conv => lhs; rw [← List.take_append_drop k (prL PP.length BB.length)]
    rw [List.find?_append, List.find?_eq_none.2 fun q hq => ?_]
    · rfl
    · obtain ⟨j, hjq⟩ := List.mem_iff_getElem?.1 hq
      have hjk : j < k := by
        have := (List.getElem?_eq_some_iff.1 hjq).1
        have := List.length_take_le k (prL PP.length BB.length)
        omega
      rw [List.getElem?_take_of_lt hjk] at hjq
      rw [hj j q hjk hjq]; simp
  have hqx : ∀ b a, ovQ r PP BB LL (frF BB LL) (b, a) = decide (endD r LL (rowP (frF BB LL) b a) true > limP PP BB b a * 216000) := fun b a => rfl
  generalize ovQ r PP BB LL (frF BB LL) = pq at *
  generalize prL PP.length BB.length = Q at *
  obtain ⟨po, pn, pc, bo, bn, bc, f0, f1, f2, lo, ln, lc⟩ := r
  dsimp only at hpn hbn
  refine calls_fam env mixed Try.func43 has43 Try.ntmps43 [.agg #[.slice po pn pc, .slice bo bn bc, iv f0, iv f1, iv f2, .slice lo ln lc]] (by simp) ?_
  repeat'
   conv => whnf
   first
    | refine zA ?_ | refine zB ?_ | refine zC ?_ | refine zD ?_ | refine zE ?_ | refine zF ?_ | refine zG ?_ | refine zH ?_ | refine zI ?_ | refine splT ?_ | refine splF ?_ | refine splNot ?_
    | ((first | refine splIn (fun hc => ?_) (fun hc => ?_) | refine splD (fun hc => ?_) (fun hc => ?_) | refine splE (fun hc => ?_) (fun hc => ?_) | refine splNE (fun hc => ?_) (fun hc => ?_)) <;> first | (exfalso; omega) | (exfalso; dsimp only at hc; omega) | skip)
    | ((with_reducible show CallEv _ _ 39 _ _ _ _ _); refine callF [] (fun y : YS Q => sV Q.length y.1) (fun y => Rd 2 gF (sV Q.length y.1) Q) (fun β w' _ hbw => h39 w') ?_; intro y; obtain ⟨⟨q1, q2⟩, hq0⟩ := y; dsimp only at hq0 ⊢)
  all_goals first | (exfalso; omega) | skip
  obtain ⟨qa, rfl⟩ : ∃ ad, q1 = some ad := hq0.resolve_left fun hc => by rw [hc] at hQl; simp at hQl; omega
  refine loopN 2 (fun k : Nat => [(1, .ptr 0 0), (2, .ptr 1 0), (5, .v (sV Q.length (some qa, q2))), (6, .v (iv k))]) (fun _ => [(0, .cells [.v (.slice po pn pc), .v (.slice bo bn bc), .v (iv f0), .v (iv f1), .v (iv f2), .v (.slice lo ln lc)] 48), (1, .cells [.v (iv 0), .v (iv 0)] 91)])
    (fun k => k ≤ Q.length ∧ ∀ j q, j < k → Q[j]? = some q → pq q = false) (fun k => Q.length - k) 0 ⟨Nat.zero_le _, fun j q h => absurd h (Nat.not_lt_zero _)⟩ ⟨rfl, rfl, rfl, rfl, trivial⟩ ⟨rfl, rfl, trivial⟩ (fun _ _ => ⟨rfl, rfl⟩) ?_
  intro k ⟨hk, hall⟩
  have hfk := hfd k hk hall
  rcases Nat.lt_or_ge k Q.length with hkl | hkl
  · obtain ⟨⟨b, a⟩, hq⟩ : ∃ q, Q[k]? = some q := ⟨_, List.getElem?_eq_getElem hkl⟩
    have hpo := hQok k _ hq
    dsimp only at hpo
    have hba := hpo
    unfold partOk at hba
    have hdr : Q.drop k = (b, a) :: Q.drop (k + 1) := by
      rw [List.drop_eq_getElem_cons hkl]
      rw [List.getElem?_eq_getElem hkl] at hq
      rw [Option.some.inj hq]
    rw [hdr, List.find?_cons] at hfk
    let WH : World → Prop := fun w' => Below w.heap.size w w' ∧ Rd 2 gF (sV Q.length (some qa, q2)) Q w'
    have eQ := fun (w' : World) (hw' : WH w') => rd_ati hw'.2 hq
    have eQ0 := fun (w' : World) (hw' : WH w') => rd_fld hw'.2 hq 0 (iv b) rfl
    have n0 := fun (w' : World) (hb : Below w.heap.size w w') => hWn b a w' hb hpo
    have o0 := fun (w' : World) (hb : Below w.heap.size w w') => hWo b a w' hb hpo
    have h47 := fun (w' : World) (hb : Below w.heap.size w w') => hLim b a w' hb hpo
    have hqk := hqx b a
    have hnx : pq (b, a) = false → ∀ j q, j < k + 1 → Q[j]? = some q → pq q = false := fun hf j q hj hjq => by
      rcases Nat.lt_succ_iff_lt_or_eq.1 hj with h | rfl
      · exact hall j q h hjq
      · rw [hq] at hjq; rw [← Option.some.inj hjq]; exact hf
    have hE := hEl (rowP (frF BB LL) b a)
    cases hpq : pq (b, a) with
    | true =>
      rw [hpq] at hfk hqk
      have hfk : Q.find? pq = some (b, a) := hfk
      rw [hfk]
      rw [show (wkP (frF BB LL) (some (b, a))).b = b from rfl, show (wkP (frF BB LL) (some (b, a))).a = a from rfl, show (wkP (frF BB LL) (some (b, a))).pl ⟨po, pn, pc, bo, bn, bc, f0, f1, f2, lo, ln, lc⟩ LL true = endL ⟨po, pn, pc, bo, bn, bc, f0, f1, f2, lo, ln, lc⟩ (rowP (frF BB LL) b a) true LL from rfl, show (wkP (frF BB LL) (some (b, a))).isSome = true from rfl]
      generalize endL ⟨po, pn, pc, bo, bn, bc, f0, f1, f2, lo, ln, lc⟩ (rowP (frF BB LL) b a) true LL = E0 at *
      generalize endD ⟨po, pn, pc, bo, bn, bc, f0, f1, f2, lo, ln, lc⟩ LL (rowP (frF BB LL) b a) true = x at *
      generalize limP PP BB b a * 216000 = lim at *
      have hqk := hqk.symm
      simp only [Bool.and_eq_true, decide_eq_true_eq] at hqk
      by_cases hne : LL = []
      · have n0 := fun w' hb => n0 w' hb hne
        clear o0 hWo hWn
        have hE0 : E0 = [] := by rw [hne] at hE; exact List.length_eq_zero_iff.1 hE
        subst hE0
        repeat'
         conv => whnf
         first
          | refine zA ?_ | refine zB ?_ | refine zC ?_ | refine zD ?_ | refine zE ?_ | refine zF ?_ | refine zG ?_ | refine zH ?_ | refine zI ?_ | refine splT ?_ | refine splF ?_ | refine splNot ?_
          | ((first | refine splIn (fun hc => ?_) (fun hc => ?_) | refine splD (fun hc => ?_) (fun hc => ?_) | refine splE (fun hc => ?_) (fun hc => ?_) | refine splNE (fun hc => ?_) (fun hc => ?_)) <;> first | (exfalso; omega) | (exfalso; dsimp only at hc; omega) | skip)
          | ((with_reducible show CallEv _ _ 40 _ _ _ _ _); refine callE (k := 40) (fun β w' hbw => n0 w' (by first | exact hbw | exact hbw.1 | exact hbw.1.1 | exact hbw.1.1.1 | exact hbw.1.1.1.1 | exact hbw.1.1.1.1.1 | exact hbw.1.1.1.1.1.1 | exact hbw.1.1.1.1.1.1.1)) ?_)
          | refine Exists.intro (α := List Value) [iv b, iv a] ⟨⟨rfl, fun w' hw' => eQ w' hw'⟩, ?_⟩
          | refine Exists.intro (α := List Value) [iv b] ⟨⟨rfl, fun w' hw' => eQ0 w' hw'⟩, ?_⟩
          | ((with_reducible show CallEv _ _ 47 _ _ _ _ _); refine callE (k := 47) (fun β w' hbw => h47 _ (by first | exact hbw | exact hbw.1 | exact hbw.1.1 | exact hbw.1.1.1 | exact hbw.1.1.1.1 | exact hbw.1.1.1.1.1 | exact hbw.1.1.1.1.1.1 | exact hbw.1.1.1.1.1.1.1)) ?_)
        all_goals first | (exfalso; omega) | exact ⟨fun w' h => h.1, fun β w' hB hblk => ⟨(none, 0), rfl, fun _ _ => .inl ⟨rfl, rfl⟩⟩⟩
      · have o0 := fun w' hb => o0 w' hb hne
        clear n0 hWo hWn
        repeat'
         conv => whnf
         first
          | refine zA ?_ | refine zB ?_ | refine zC ?_ | refine zD ?_ | refine zE ?_ | refine zF ?_ | refine zG ?_ | refine zH ?_ | refine zI ?_ | refine splT ?_ | refine splF ?_ | refine splNot ?_
          | ((first | refine splIn (fun hc => ?_) (fun hc => ?_) | refine splD (fun hc => ?_) (fun hc => ?_) | refine splE (fun hc => ?_) (fun hc => ?_) | refine splNE (fun hc => ?_) (fun hc => ?_)) <;> first | (exfalso; omega) | (exfalso; dsimp only at hc; omega) | skip)
          | ((with_reducible show CallEv _ _ 40 _ _ _ _ _); refine callO 2 [] (.tup [.os 2 3 LL.length, .v (iv x)]) LL.length 1 (E0.flatMap iF) 3 rfl (fun β w' _ hbw => (o0 w' (by first | exact hbw | exact hbw.1 | exact hbw.1.1 | exact hbw.1.1.1 | exact hbw.1.1.1.1 | exact hbw.1.1.1.1.1 | exact hbw.1.1.1.1.1.1 | exact hbw.1.1.1.1.1.1.1)).mono fun _ _ ⟨b, c, h1, h2, h3, h4⟩ => ⟨b, c, h1, h2, h3, h4⟩) ?_)
          | refine Exists.intro (α := List Value) [iv b, iv a] ⟨⟨rfl, fun w' hw' => eQ w' hw'⟩, ?_⟩
          | refine Exists.intro (α := List Value) [iv b] ⟨⟨rfl, fun w' hw' => eQ0 w' hw'⟩, ?_⟩
          | ((with_reducible show CallEv _ _ 47 _ _ _ _ _); refine callE (k := 47) (fun β w' hbw => h47 _ (by first | exact hbw | exact hbw.1 | exact hbw.1.1 | exact hbw.1.1.1 | exact hbw.1.1.1.1 | exact hbw.1.1.1.1.1 | exact hbw.1.1.1.1.1.1 | exact hbw.1.1.1.1.1.1.1)) ?_)
        all_goals first | (exfalso; omega) | exact ⟨fun w' h => h.1, fun β w' hB hblk => ⟨(some ⟨β 2, 0, none⟩, β 3), by rw [hE]; rfl, (hblk 2 _ rfl rfl).imp fun _ q => Rd.of_owns (sz := 1) (f := iF) (bs := E0) (fun _ => rfl) rfl rfl (by rw [hE]; exact q)⟩⟩
    | false =>
      have hnx := hnx hpq
      rw [hpq] at hfk hqk
      generalize endL ⟨po, pn, pc, bo, bn, bc, f0, f1, f2, lo, ln, lc⟩ (rowP (frF BB LL) b a) true LL = E0 at o0
      generalize endD ⟨po, pn, pc, bo, bn, bc, f0, f1, f2, lo, ln, lc⟩ LL (rowP (frF BB LL) b a) true = x at *
      generalize limP PP BB b a * 216000 = lim at *
      have hqk := hqk.symm
      simp only [Bool.and_eq_false_iff, decide_eq_false_iff_not] at hqk
      by_cases hne : LL = []
      · have n0 := fun w' hb => n0 w' hb hne
        clear o0 hWo hWn
        repeat'
         conv => whnf
         first
          | refine zA ?_ | refine zB ?_ | refine zC ?_ | refine zD ?_ | refine zE ?_ | refine zF ?_ | refine zG ?_ | refine zH ?_ | refine zI ?_ | refine splT ?_ | refine splF ?_ | refine splNot ?_
          | ((first | refine splIn (fun hc => ?_) (fun hc => ?_) | refine splD (fun hc => ?_) (fun hc => ?_) | refine splE (fun hc => ?_) (fun hc => ?_) | refine splNE (fun hc => ?_) (fun hc => ?_)) <;> first | (exfalso; omega) | (exfalso; dsimp only at hc; omega) | skip)
          | ((with_reducible show CallEv _ _ 40 _ _ _ _ _); refine callE (k := 40) (fun β w' hbw => n0 w' (by first | exact hbw | exact hbw.1 | exact hbw.1.1 | exact hbw.1.1.1 | exact hbw.1.1.1.1 | exact hbw.1.1.1.1.1 | exact hbw.1.1.1.1.1.1 | exact hbw.1.1.1.1.1.1.1)) ?_)
          | refine Exists.intro (α := List Value) [iv b, iv a] ⟨⟨rfl, fun w' hw' => eQ w' hw'⟩, ?_⟩
          | refine Exists.intro (α := List Value) [iv b] ⟨⟨rfl, fun w' hw' => eQ0 w' hw'⟩, ?_⟩
          | ((with_reducible show CallEv _ _ 47 _ _ _ _ _); refine callE (k := 47) (fun β w' hbw => h47 _ (by first | exact hbw | exact hbw.1 | exact hbw.1.1 | exact hbw.1.1.1 | exact hbw.1.1.1.1 | exact hbw.1.1.1.1.1 | exact hbw.1.1.1.1.1.1 | exact hbw.1.1.1.1.1.1.1)) ?_)
        all_goals first | (exfalso; omega) | exact ⟨k + 1, ⟨by omega, hnx⟩, by omega, Ent.weak rfl ⟨rfl, rfl, rfl, rfl, trivial⟩ ⟨rfl, rfl, trivial⟩ fun _ h => h⟩
      · have o0 := fun w' hb => o0 w' hb hne
        clear n0 hWo hWn
        repeat'
         conv => whnf
         first
          | refine zA ?_ | refine zB ?_ | refine zC ?_ | refine zD ?_ | refine zE ?_ | refine zF ?_ | refine zG ?_ | refine zH ?_ | refine zI ?_ | refine splT ?_ | refine splF ?_ | refine splNot ?_
          | ((first | refine splIn (fun hc => ?_) (fun hc => ?_) | refine splD (fun hc => ?_) (fun hc => ?_) | refine splE (fun hc => ?_) (fun hc => ?_) | refine splNE (fun hc => ?_) (fun hc => ?_)) <;> first | (exfalso; omega) | (exfalso; dsimp only at hc; omega) | skip)
          | ((with_reducible show CallEv _ _ 40 _ _ _ _ _); refine callO 2 [] (.tup [.os 2 3 LL.length, .v (iv x)]) LL.length 1 (E0.flatMap iF) 3 rfl (fun β w' _ hbw => (o0 w' (by first | exact hbw | exact hbw.1 | exact hbw.1.1 | exact hbw.1.1.1 | exact hbw.1.1.1.1 | exact hbw.1.1.1.1.1 | exact hbw.1.1.1.1.1.1 | exact hbw.1.1.1.1.1.1.1)).mono fun _ _ ⟨b, c, h1, h2, h3, h4⟩ => ⟨b, c, h1, h2, h3, h4⟩) ?_)
          | refine Exists.intro (α := List Value) [iv b, iv a] ⟨⟨rfl, fun w' hw' => eQ w' hw'⟩, ?_⟩
          | refine Exists.intro (α := List Value) [iv b] ⟨⟨rfl, fun w' hw' => eQ0 w' hw'⟩, ?_⟩
          | ((with_reducible show CallEv _ _ 47 _ _ _ _ _); refine callE (k := 47) (fun β w' hbw => h47 _ (by first | exact hbw | exact hbw.1 | exact hbw.1.1 | exact hbw.1.1.1 | exact hbw.1.1.1.1 | exact hbw.1.1.1.1.1 | exact hbw.1.1.1.1.1.1 | exact hbw.1.1.1.1.1.1.1)) ?_)
        all_goals first | (exfalso; omega) | exact ⟨k + 1, ⟨by omega, hnx⟩, by omega, Ent.weak rfl ⟨rfl, rfl, rfl, rfl, trivial⟩ ⟨rfl, rfl, trivial⟩ fun _ h => h⟩
  · rw [List.drop_eq_nil_of_le hkl] at hfk
    have hfk : Q.find? pq = none := hfk
    rw [hfk]
    repeat'
     conv => whnf
     first
      | refine zA ?_ | refine zB ?_ | refine zC ?_ | refine zD ?_ | refine zE ?_ | refine zF ?_ | refine zG ?_ | refine zH ?_ | refine zI ?_ | refine splT ?_ | refine splF ?_ | refine splNot ?_
      | ((first | refine splIn (fun hc => ?_) (fun hc => ?_) | refine splD (fun hc => ?_) (fun hc => ?_) | refine splE (fun hc => ?_) (fun hc => ?_) | refine splNE (fun hc => ?_) (fun hc => ?_)) <;> first | (exfalso; omega) | (exfalso; dsimp only at hc; omega) | skip)
    all_goals first | (exfalso; omega) | exact ⟨fun w' h => h.1, fun β w' hB hblk => ⟨(none, 0), rfl, fun _ _ => .inl ⟨rfl, rfl⟩⟩⟩

set_option maxHeartbeats 16000000 in
set_option maxRecDepth 100000 in
theorem SlackR_ok (r : Rig) (PP : List Int) (BB : List Bm) (LL : List Ld) (w : World) (hX : RigX r PP BB LL w) (hr : rigOk r.f0 r.f1 r.f2 PP BB LL = true) :
    Calls Try.prog 44 #[r.v] w fun e w' => ∃ y : Option Addr × Nat, e = .returned (.tuple #[.agg #[iv (slO r BB LL (frF BB LL)).b, iv (slO r BB LL (frF BB LL)).a], sV ((slO r BB LL (frF BB LL)).pl r LL false).length y, .bool (slO r BB LL (frF BB LL)).isSome]) ∧ Below w.heap.size w w' ∧
      St w.heap.size (Rd 1 iF (sV ((slO r BB LL (frF BB LL)).pl r LL false).length y) ((slO r BB LL (frF BB LL)).pl r LL false)) w' := by
  have hri := rigOk_iff.1 hr
  have hpn := hX.pn
  have hbn := hX.bn
  have hm12 : BB.length ≤ 12 := hri.2.2.1
  have hP12 : 1 ≤ PP.length ∧ PP.length ≤ 12 := by omega
  have h39 := fun (w' : World) => Parts_ok r w' (by omega) (by omega)
  rw [hpn, hbn] at h39
  have hQl := prL_len PP.length BB.length
  have hQok := fun (k : Nat) (q : Int × Int) => prL_ok (n := PP.length) (m := BB.length) (k := k) (q := q)
  have hWo := fun (b a : Int) (w' : World) (hb : Below w.heap.size w w') hp hne => Witness_own r PP BB LL b a false w' (hX.below hb) hr hp hne
  have hWn := fun (b a : Int) (w' : World) (hb : Below w.heap.size w w') hp hne => Witness_nil r PP BB LL b a false w' (hX.below hb) hr hp hne
  have hEl := fun x => endL_len r x false LL
  have hLim := fun (b a : Int) (w' : World) (hb : Below w.heap.size w w') hp => Limit_ok r PP BB LL b a w' (hX.below hb) hr hp
  rw [slO_find r PP]
  have hfd : ∀ k, k ≤ (prL PP.length BB.length).length → (∀ j q, j < k → (prL PP.length BB.length)[j]? = some q → slQ r LL (frF BB LL) q = false) → (prL PP.length BB.length).find? (slQ r LL (frF BB LL)) = ((prL PP.length BB.length).drop k).find? (slQ r LL (frF BB LL)) := fun k hk hj => by
    conv => lhs; rw [← List.take_append_drop k (prL PP.length BB.length)]
    rw [List.find?_append, List.find?_eq_none.2 fun q hq => ?_]
    · rfl
    · obtain ⟨j, hjq⟩ := List.mem_iff_getElem?.1 hq
      have hjk : j < k := by
        have := (List.getElem?_eq_some_iff.1 hjq).1
        have := List.length_take_le k (prL PP.length BB.length)
        omega
      rw [List.getElem?_take_of_lt hjk] at hjq
      rw [hj j q hjk hjq]; simp
  have hqx : ∀ b a, slQ r LL (frF BB LL) (b, a) = (decide (b ≥ 0) && decide (endD r LL (rowP (frF BB LL) b a) false < 0)) := fun b a => rfl
  generalize slQ r LL (frF BB LL) = pq at *
  generalize prL PP.length BB.length = Q at *
  obtain ⟨po, pn, pc, bo, bn, bc, f0, f1, f2, lo, ln, lc⟩ := r
  dsimp only at hpn hbn
  refine calls_fam env mixed Try.func44 has44 Try.ntmps44 [.agg #[.slice po pn pc, .slice bo bn bc, iv f0, iv f1, iv f2, .slice lo ln lc]] (by simp) ?_
  repeat'
   conv => whnf
   first
    | refine zA ?_ | refine zB ?_ | refine zC ?_ | refine zD ?_ | refine zE ?_ | refine zF ?_ | refine zG ?_ | refine zH ?_ | refine zI ?_ | refine splT ?_ | refine splF ?_ | refine splNot ?_
    | ((first | refine splIn (fun hc => ?_) (fun hc => ?_) | refine splD (fun hc => ?_) (fun hc => ?_) | refine splE (fun hc => ?_) (fun hc => ?_) | refine splNE (fun hc => ?_) (fun hc => ?_)) <;> first | (exfalso; omega) | (exfalso; dsimp only at hc; omega) | skip)
    | ((with_reducible show CallEv _ _ 39 _ _ _ _ _); refine callF [] (fun y : YS Q => sV Q.length y.1) (fun y => Rd 2 gF (sV Q.length y.1) Q) (fun β w' _ hbw => h39 w') ?_; intro y; obtain ⟨⟨q1, q2⟩, hq0⟩ := y; dsimp only at hq0 ⊢)
  all_goals first | (exfalso; omega) | skip
  obtain ⟨qa, rfl⟩ : ∃ ad, q1 = some ad := hq0.resolve_left fun hc => by rw [hc] at hQl; simp at hQl; omega
  refine loopN 2 (fun k : Nat => [(1, .ptr 0 0), (2, .ptr 1 0), (5, .v (sV Q.length (some qa, q2))), (6, .v (iv k))]) (fun _ => [(0, .cells [.v (.slice po pn pc), .v (.slice bo bn bc), .v (iv f0), .v (iv f1), .v (iv f2), .v (.slice lo ln lc)] 48), (1, .cells [.v (iv 0), .v (iv 0)] 91)])
    (fun k => k ≤ Q.length ∧ ∀ j q, j < k → Q[j]? = some q → pq q = false) (fun k => Q.length - k) 0 ⟨Nat.zero_le _, fun j q h => absurd h (Nat.not_lt_zero _)⟩ ⟨rfl, rfl, rfl, rfl, trivial⟩ ⟨rfl, rfl, trivial⟩ (fun _ _ => ⟨rfl, rfl⟩) ?_
  intro k ⟨hk, hall⟩
  have hfk := hfd k hk hall
  rcases Nat.lt_or_ge k Q.length with hkl | hkl
  · obtain ⟨⟨b, a⟩, hq⟩ : ∃ q, Q[k]? = some q := ⟨_, List.getElem?_eq_getElem hkl⟩
    have hpo := hQok k _ hq
    dsimp only at hpo
    have hba := hpo
    unfold partOk at hba
    have hdr : Q.drop k = (b, a) :: Q.drop (k + 1) := by
      rw [List.drop_eq_getElem_cons hkl]
      rw [List.getElem?_eq_getElem hkl] at hq
      rw [Option.some.inj hq]
    rw [hdr, List.find?_cons] at hfk
    let WH : World → Prop := fun w' => Below w.heap.size w w' ∧ Rd 2 gF (sV Q.length (some qa, q2)) Q w'
    have eQ := fun (w' : World) (hw' : WH w') => rd_ati hw'.2 hq
    have eQ0 := fun (w' : World) (hw' : WH w') => rd_fld hw'.2 hq 0 (iv b) rfl
    have n0 := fun (w' : World) (hb : Below w.heap.size w w') => hWn b a w' hb hpo
    have o0 := fun (w' : World) (hb : Below w.heap.size w w') => hWo b a w' hb hpo
    have h47 := fun (w' : World) (hb : Below w.heap.size w w') => hLim b a w' hb hpo
    have hqk := hqx b a
    have hnx : pq (b, a) = false → ∀ j q, j < k + 1 → Q[j]? = some q → pq q = false := fun hf j q hj hjq => by
      rcases Nat.lt_succ_iff_lt_or_eq.1 hj with h | rfl
      · exact hall j q h hjq
      · rw [hq] at hjq; rw [← Option.some.inj hjq]; exact hf
    have hE := hEl (rowP (frF BB LL) b a)
    cases hpq : pq (b, a) with
    | true =>
      rw [hpq] at hfk hqk
      have hfk : Q.find? pq = some (b, a) := hfk
      rw [hfk]
      rw [show (wkP (frF BB LL) (some (b, a))).b = b from rfl, show (wkP (frF BB LL) (some (b, a))).a = a from rfl, show (wkP (frF BB LL) (some (b, a))).pl ⟨po, pn, pc, bo, bn, bc, f0, f1, f2, lo, ln, lc⟩ LL false = endL ⟨po, pn, pc, bo, bn, bc, f0, f1, f2, lo, ln, lc⟩ (rowP (frF BB LL) b a) false LL from rfl, show (wkP (frF BB LL) (some (b, a))).isSome = true from rfl]
      generalize endL ⟨po, pn, pc, bo, bn, bc, f0, f1, f2, lo, ln, lc⟩ (rowP (frF BB LL) b a) false LL = E0 at *
      generalize endD ⟨po, pn, pc, bo, bn, bc, f0, f1, f2, lo, ln, lc⟩ LL (rowP (frF BB LL) b a) false = x at *
      generalize limP PP BB b a * 216000 = lim at *
      have hqk := hqk.symm
      simp only [Bool.and_eq_true, decide_eq_true_eq] at hqk
      by_cases hne : LL = []
      · have n0 := fun w' hb => n0 w' hb hne
        clear o0 hWo hWn
        have hE0 : E0 = [] := by rw [hne] at hE; exact List.length_eq_zero_iff.1 hE
        subst hE0
        repeat'
         conv => whnf
         first
          | refine zA ?_ | refine zB ?_ | refine zC ?_ | refine zD ?_ | refine zE ?_ | refine zF ?_ | refine zG ?_ | refine zH ?_ | refine zI ?_ | refine splT ?_ | refine splF ?_ | refine splNot ?_
          | ((first | refine splIn (fun hc => ?_) (fun hc => ?_) | refine splD (fun hc => ?_) (fun hc => ?_) | refine splE (fun hc => ?_) (fun hc => ?_) | refine splNE (fun hc => ?_) (fun hc => ?_)) <;> first | (exfalso; omega) | (exfalso; dsimp only at hc; omega) | skip)
          | ((with_reducible show CallEv _ _ 40 _ _ _ _ _); refine callE (k := 40) (fun β w' hbw => n0 w' (by first | exact hbw | exact hbw.1 | exact hbw.1.1 | exact hbw.1.1.1 | exact hbw.1.1.1.1 | exact hbw.1.1.1.1.1 | exact hbw.1.1.1.1.1.1 | exact hbw.1.1.1.1.1.1.1)) ?_)
          | refine Exists.intro (α := List Value) [iv b, iv a] ⟨⟨rfl, fun w' hw' => eQ w' hw'⟩, ?_⟩
          | refine Exists.intro (α := List Value) [iv b] ⟨⟨rfl, fun w' hw' => eQ0 w' hw'⟩, ?_⟩
        all_goals first | (exfalso; omega) | exact ⟨fun w' h => h.1, fun β w' hB hblk => ⟨(none, 0), rfl, fun _ _ => .inl ⟨rfl, rfl⟩⟩⟩
      · have o0 := fun w' hb => o0 w' hb hne
        clear n0 hWo hWn
        repeat'
         conv => whnf
         first
          | refine zA ?_ | refine zB ?_ | refine zC ?_ | refine zD ?_ | refine zE ?_ | refine zF ?_ | refine zG ?_ | refine zH ?_ | refine zI ?_ | refine splT ?_ | refine splF ?_ | refine splNot ?_
          | ((first | refine splIn (fun hc => ?_) (fun hc => ?_) | refine splD (fun hc => ?_) (fun hc => ?_) | refine splE (fun hc => ?_) (fun hc => ?_) | refine splNE (fun hc => ?_) (fun hc => ?_)) <;> first | (exfalso; omega) | (exfalso; dsimp only at hc; omega) | skip)
          | ((with_reducible show CallEv _ _ 40 _ _ _ _ _); refine callO 2 [] (.tup [.os 2 3 LL.length, .v (iv x)]) LL.length 1 (E0.flatMap iF) 3 rfl (fun β w' _ hbw => (o0 w' (by first | exact hbw | exact hbw.1 | exact hbw.1.1 | exact hbw.1.1.1 | exact hbw.1.1.1.1 | exact hbw.1.1.1.1.1 | exact hbw.1.1.1.1.1.1 | exact hbw.1.1.1.1.1.1.1)).mono fun _ _ ⟨b, c, h1, h2, h3, h4⟩ => ⟨b, c, h1, h2, h3, h4⟩) ?_)
          | refine Exists.intro (α := List Value) [iv b, iv a] ⟨⟨rfl, fun w' hw' => eQ w' hw'⟩, ?_⟩
          | refine Exists.intro (α := List Value) [iv b] ⟨⟨rfl, fun w' hw' => eQ0 w' hw'⟩, ?_⟩
        all_goals first | (exfalso; omega) | exact ⟨fun w' h => h.1, fun β w' hB hblk => ⟨(some ⟨β 2, 0, none⟩, β 3), by rw [hE]; rfl, (hblk 2 _ rfl rfl).imp fun _ q => Rd.of_owns (sz := 1) (f := iF) (bs := E0) (fun _ => rfl) rfl rfl (by rw [hE]; exact q)⟩⟩
    | false =>
      have hnx := hnx hpq
      rw [hpq] at hfk hqk
      generalize endL ⟨po, pn, pc, bo, bn, bc, f0, f1, f2, lo, ln, lc⟩ (rowP (frF BB LL) b a) false LL = E0 at o0
      generalize endD ⟨po, pn, pc, bo, bn, bc, f0, f1, f2, lo, ln, lc⟩ LL (rowP (frF BB LL) b a) false = x at *
      generalize limP PP BB b a * 216000 = lim at *
      have hqk := hqk.symm
      simp only [Bool.and_eq_false_iff, decide_eq_false_iff_not] at hqk
      by_cases hne : LL = []
      · have n0 := fun w' hb => n0 w' hb hne
        clear o0 hWo hWn
        repeat'
         conv => whnf
         first
          | refine zA ?_ | refine zB ?_ | refine zC ?_ | refine zD ?_ | refine zE ?_ | refine zF ?_ | refine zG ?_ | refine zH ?_ | refine zI ?_ | refine splT ?_ | refine splF ?_ | refine splNot ?_
          | ((first | refine splIn (fun hc => ?_) (fun hc => ?_) | refine splD (fun hc => ?_) (fun hc => ?_) | refine splE (fun hc => ?_) (fun hc => ?_) | refine splNE (fun hc => ?_) (fun hc => ?_)) <;> first | (exfalso; omega) | (exfalso; dsimp only at hc; omega) | skip)
          | ((with_reducible show CallEv _ _ 40 _ _ _ _ _); refine callE (k := 40) (fun β w' hbw => n0 w' (by first | exact hbw | exact hbw.1 | exact hbw.1.1 | exact hbw.1.1.1 | exact hbw.1.1.1.1 | exact hbw.1.1.1.1.1 | exact hbw.1.1.1.1.1.1 | exact hbw.1.1.1.1.1.1.1)) ?_)
          | refine Exists.intro (α := List Value) [iv b, iv a] ⟨⟨rfl, fun w' hw' => eQ w' hw'⟩, ?_⟩
          | refine Exists.intro (α := List Value) [iv b] ⟨⟨rfl, fun w' hw' => eQ0 w' hw'⟩, ?_⟩
        all_goals first | (exfalso; omega) | exact ⟨k + 1, ⟨by omega, hnx⟩, by omega, Ent.weak rfl ⟨rfl, rfl, rfl, rfl, trivial⟩ ⟨rfl, rfl, trivial⟩ fun _ h => h⟩
      · have o0 := fun w' hb => o0 w' hb hne
        clear n0 hWo hWn
        repeat'
         conv => whnf
         first
          | refine zA ?_ | refine zB ?_ | refine zC ?_ | refine zD ?_ | refine zE ?_ | refine zF ?_ | refine zG ?_ | refine zH ?_ | refine zI ?_ | refine splT ?_ | refine splF ?_ | refine splNot ?_
          | ((first | refine splIn (fun hc => ?_) (fun hc => ?_) | refine splD (fun hc => ?_) (fun hc => ?_) | refine splE (fun hc => ?_) (fun hc => ?_) | refine splNE (fun hc => ?_) (fun hc => ?_)) <;> first | (exfalso; omega) | (exfalso; dsimp only at hc; omega) | skip)
          | ((with_reducible show CallEv _ _ 40 _ _ _ _ _); refine callO 2 [] (.tup [.os 2 3 LL.length, .v (iv x)]) LL.length 1 (E0.flatMap iF) 3 rfl (fun β w' _ hbw => (o0 w' (by first | exact hbw | exact hbw.1 | exact hbw.1.1 | exact hbw.1.1.1 | exact hbw.1.1.1.1 | exact hbw.1.1.1.1.1 | exact hbw.1.1.1.1.1.1 | exact hbw.1.1.1.1.1.1.1)).mono fun _ _ ⟨b, c, h1, h2, h3, h4⟩ => ⟨b, c, h1, h2, h3, h4⟩) ?_)
          | refine Exists.intro (α := List Value) [iv b, iv a] ⟨⟨rfl, fun w' hw' => eQ w' hw'⟩, ?_⟩
          | refine Exists.intro (α := List Value) [iv b] ⟨⟨rfl, fun w' hw' => eQ0 w' hw'⟩, ?_⟩
        all_goals first | (exfalso; omega) | exact ⟨k + 1, ⟨by omega, hnx⟩, by omega, Ent.weak rfl ⟨rfl, rfl, rfl, rfl, trivial⟩ ⟨rfl, rfl, trivial⟩ fun _ h => h⟩
  · rw [List.drop_eq_nil_of_le hkl] at hfk
    have hfk : Q.find? pq = none := hfk
    rw [hfk]
    repeat'
     conv => whnf
     first
      | refine zA ?_ | refine zB ?_ | refine zC ?_ | refine zD ?_ | refine zE ?_ | refine zF ?_ | refine zG ?_ | refine zH ?_ | refine zI ?_ | refine splT ?_ | refine splF ?_ | refine splNot ?_
      | ((first | refine splIn (fun hc => ?_) (fun hc => ?_) | refine splD (fun hc => ?_) (fun hc => ?_) | refine splE (fun hc => ?_) (fun hc => ?_) | refine splNE (fun hc => ?_) (fun hc => ?_)) <;> first | (exfalso; omega) | (exfalso; dsimp only at hc; omega) | skip)
    all_goals first | (exfalso; omega) | exact ⟨fun w' h => h.1, fun β w' hB hblk => ⟨(none, 0), rfl, fun _ _ => .inl ⟨rfl, rfl⟩⟩⟩
end Go.Proofs.Ytaciigegbgnadaa

/- RiggingWeak answers true. By IX.py. -/
namespace Go.Proofs.Ytaciigegbgnadaa
open Go Tx Go.RowKit
set_option linter.unusedSimpArgs false
set_option linter.unusedVariables false

theorem endL_fac' {r r' : Rig} (h : ∀ k, r.fac k = r'.fac k) (x : Row) (most : Bool) (LL : List Ld) : endL r x most LL = endL r' x most LL := by
  have h1 : hiP r = hiP r' := funext fun l => by unfold hiP; rw [h]
  unfold endL endV
  rw [h1]
theorem endD_fac' {r r' : Rig} (h : ∀ k, r.fac k = r'.fac k) (LL : List Ld) : endD r LL = endD r' LL := funext fun x => funext fun most => by
  unfold endD
  rw [endL_fac' h]
theorem pl_fac {r r' : Rig} (h : ∀ k, r.fac k = r'.fac k) (LL : List Ld) (most : Bool) (W : Wk) : W.pl r LL most = W.pl r' LL most := by
  rcases W with _ | ⟨b, a, x⟩
  · rfl
  · exact endL_fac' h x most LL
theorem ovO_fac {r r' : Rig} (h : ∀ k, r.fac k = r'.fac k) (PP : List Int) (BB : List Bm) (LL : List Ld) (F : Fr) : ovO r PP BB LL F = ovO r' PP BB LL F := by
  unfold ovO ovF
  rw [endD_fac' h]
theorem slO_fac {r r' : Rig} (h : ∀ k, r.fac k = r'.fac k) (BB : List Bm) (LL : List Ld) (F : Fr) : slO r BB LL F = slO r' BB LL F := by
  unfold slO
  rw [endD_fac' h]
theorem pl_len (r : Rig) (LL : List Ld) (most : Bool) (W : Wk) : (W.pl r LL most).length ≤ LL.length := by
  rcases W with _ | ⟨b, a, x⟩
  · exact Nat.zero_le _
  · exact Nat.le_of_eq (endL_len r x most LL)
theorem Over_nr (PP : List Int) (BB : List Bm) (LL : List Ld) (f0 f1 f2 : Int) (r : Rig) (W : Wk) (hW : W = if rigOk f0 f1 f2 PP BB LL = true then ovO r PP BB LL (frF BB LL) else none) (hf : r.f0 = f0 ∧ r.f1 = f1 ∧ r.f2 = f2) (y : (Option Addr × Nat) × (Option Addr × Nat) × (Option Addr × Nat)) (w : World)
    (h : nrH PP BB LL y w) (h1 : PP.length ≤ 1000000) (h2 : BB.length ≤ 1000000) (h3 : LL.length ≤ 1000000) :
    Calls Try.prog 41 #[nrV PP BB LL f0 f1 f2 y] w fun e w' => ∃ z : Option Addr × Nat, e = .returned (.tuple #[.agg #[iv W.b, iv W.a], sV (W.pl r LL true).length z, iv (W.e (rigOk f0 f1 f2 PP BB LL))]) ∧ Below w.heap.size w w' ∧
      St w.heap.size (Rd 1 iF (sV (W.pl r LL true).length z) (W.pl r LL true)) w' := by
  obtain ⟨e0, e1, e2⟩ := hf
  have hfa := fac_eq (r := nrR PP BB LL f0 f1 f2 y) (r' := r) e0.symm e1.symm e2.symm
  have q : ovR (nrR PP BB LL f0 f1 f2 y) PP BB LL = W := by rw [hW]; unfold ovR; rw [ovO_fac hfa]
  have := Over_ok (nrR PP BB LL f0 f1 f2 y) PP BB LL w (h.rin h1 h2 h3)
  rw [q, pl_fac hfa] at this
  exact this
theorem Slack_nr (PP : List Int) (BB : List Bm) (LL : List Ld) (f0 f1 f2 : Int) (r : Rig) (W : Wk) (hW : W = if rigOk f0 f1 f2 PP BB LL = true then slO r BB LL (frF BB LL) else none) (hf : r.f0 = f0 ∧ r.f1 = f1 ∧ r.f2 = f2) (y : (Option Addr × Nat) × (Option Addr × Nat) × (Option Addr × Nat)) (w : World)
    (h : nrH PP BB LL y w) (h1 : PP.length ≤ 1000000) (h2 : BB.length ≤ 1000000) (h3 : LL.length ≤ 1000000) :
    Calls Try.prog 42 #[nrV PP BB LL f0 f1 f2 y] w fun e w' => ∃ z : Option Addr × Nat, e = .returned (.tuple #[.agg #[iv W.b, iv W.a], sV (W.pl r LL false).length z, iv (W.e (rigOk f0 f1 f2 PP BB LL))]) ∧ Below w.heap.size w w' ∧
      St w.heap.size (Rd 1 iF (sV (W.pl r LL false).length z) (W.pl r LL false)) w' := by
  obtain ⟨e0, e1, e2⟩ := hf
  have hfa := fac_eq (r := nrR PP BB LL f0 f1 f2 y) (r' := r) e0.symm e1.symm e2.symm
  have q : slR (nrR PP BB LL f0 f1 f2 y) PP BB LL = W := by rw [hW]; unfold slR; rw [slO_fac hfa]
  have := Slack_ok (nrR PP BB LL f0 f1 f2 y) PP BB LL w (h.rin h1 h2 h3)
  rw [q, pl_fac hfa] at this
  exact this

set_option maxHeartbeats 16000000 in
set_option maxRecDepth 100000 in
theorem RiggingWeak_ok (r : Rig) (PP : List Int) (BB : List Bm) (LL : List Ld) (w : World) (hX : RigX r PP BB LL w) :
    Calls Try.prog 9 #[r.v] w fun e w' => e = .returned (.bool true) ∧ Below w.heap.size w w' := by
  have hpn := hX.pn
  have hbn := hX.bn
  have hln := hX.ln
  have pl := hX.pl
  have bl := hX.bl
  have ll := hX.ll
  have h33 := fun (w' : World) => Thin_ok r w' (by omega) (by omega) (by omega)
  have h27 := fun (w' : World) (hb : Below w.heap.size w w') => Right_ok r PP BB LL w' (hX.below hb)
  rw [hpn, hbn, hln] at h33
  have h25 := fun (P : List Int) (o p : Option Addr) (c d : Nat) (w' : World) (hl : P.length ≤ 1000000) (hA : Rd 1 iF (.slice o P.length c) P w') (hB : Rd 1 iF (.slice p P.length d) P w') => (ints_ok P P o p c d w' hA hB hl hl)
  have hdt : ∀ P : List Int, decide (P = P) = true := fun P => decide_eq_true rfl
  simp only [hdt] at h25
  cases ht : thB PP.length BB.length LL.length with
  | false =>
    rw [ht] at h33
    obtain ⟨po, pn, pc, bo, bn, bc, f0, f1, f2, lo, ln, lc⟩ := r
    dsimp only at h33 hpn hbn hln
    refine calls_val env mixed Try.func9 has9 Try.ntmps9 [.agg #[.slice po pn pc, .slice bo bn bc, iv f0, iv f1, iv f2, .slice lo ln lc]] (by simp) ?_
    repeat'
     conv => whnf
     first
      | refine zA ?_ | refine zB ?_ | refine zC ?_ | refine zD ?_ | refine zE ?_ | refine zF ?_ | refine zG ?_ | refine zH ?_ | refine zI ?_ | refine splT ?_ | refine splF ?_ | refine splNot ?_
      | ((first | refine splIn (fun hc => ?_) (fun hc => ?_) | refine splD (fun hc => ?_) (fun hc => ?_) | refine splE (fun hc => ?_) (fun hc => ?_) | refine splNE (fun hc => ?_) (fun hc => ?_)) <;> first | (exfalso; omega) | (exfalso; dsimp only at hc; omega) | skip)
      | ((with_reducible show CallEv _ _ 33 _ _ _ _ _); refine callE (k := 33) (fun β w' hbw => h33 _) ?_)
      | ((with_reducible show CallEv _ _ 16 _ _ _ _ _); refine callE (k := 16) (fun β w' hbw => awake_ok _) ?_)
    all_goals first | (exfalso; omega) | exact ⟨fun β => rfl, fun w' h => h⟩
  | true =>
    rw [ht] at h33
    have hth : PP.length ≤ 16 ∧ BB.length ≤ 16 ∧ LL.length ≤ 24 := by simp [thB] at ht; omega
    clear ht
    have h30 := fun (w' : World) (hb : Below w.heap.size w w') => Rig_ok r PP BB LL w' ((hX.rin (by omega) (by omega) (by omega)).below hb) (by omega) (by omega)
    cases hr : rigOk r.f0 r.f1 r.f2 PP BB LL with
    | false =>
      rw [hr] at h27
      have h41 := fun (y : (Option Addr × Nat) × (Option Addr × Nat) × (Option Addr × Nat)) (w' : World) (h : nrH PP BB LL y w') => Over_nr PP BB LL r.f0 r.f1 r.f2 r none (by rw [hr]; rfl) ⟨rfl, rfl, rfl⟩ y w' h (by omega) (by omega) (by omega)
      have h42 := fun (y : (Option Addr × Nat) × (Option Addr × Nat) × (Option Addr × Nat)) (w' : World) (h : nrH PP BB LL y w') => Slack_nr PP BB LL r.f0 r.f1 r.f2 r none (by rw [hr]; rfl) ⟨rfl, rfl, rfl⟩ y w' h (by omega) (by omega) (by omega)
      rw [hr] at h41 h42
      obtain ⟨po, pn, pc, bo, bn, bc, f0, f1, f2, lo, ln, lc⟩ := r
      dsimp only [Wk.b, Wk.a, Wk.pl, Wk.e] at h33 h30 h41 h42 hpn hbn hln
      refine calls_val env mixed Try.func9 has9 Try.ntmps9 [.agg #[.slice po pn pc, .slice bo bn bc, iv f0, iv f1, iv f2, .slice lo ln lc]] (by simp) ?_
      repeat'
       conv => whnf
       first
        | refine zA ?_ | refine zB ?_ | refine zC ?_ | refine zD ?_ | refine zE ?_ | refine zF ?_ | refine zG ?_ | refine zH ?_ | refine zI ?_ | refine splT ?_ | refine splF ?_ | refine splNot ?_
        | ((first | refine splIn (fun hc => ?_) (fun hc => ?_) | refine splD (fun hc => ?_) (fun hc => ?_) | refine splE (fun hc => ?_) (fun hc => ?_) | refine splNE (fun hc => ?_) (fun hc => ?_)) <;> first | (exfalso; omega) | (exfalso; dsimp only at hc; omega) | skip)
        | ((with_reducible show CallEv _ _ 33 _ _ _ _ _); refine callE (k := 33) (fun β w' hbw => h33 _) ?_)
        | ((with_reducible show CallEv _ _ 16 _ _ _ _ _); refine callE (k := 16) (fun β w' hbw => awake_ok _) ?_)
        | ((with_reducible show CallEv _ _ 27 _ _ _ _ _); refine callE (k := 27) (fun β w' hbw => h27 _ (by first | exact hbw | exact hbw.1 | exact hbw.1.1 | exact hbw.1.1.1 | exact hbw.1.1.1.1 | exact hbw.1.1.1.1.1 | exact hbw.1.1.1.1.1.1 | exact hbw.1.1.1.1.1.1.1)) ?_)
        | ((with_reducible show CallEv _ _ 30 _ _ _ _ _); refine callF [] (nrV PP BB LL f0 f1 f2) (nrH PP BB LL) (fun β w' _ hbw => h30 w' (by first | exact hbw | exact hbw.1 | exact hbw.1.1 | exact hbw.1.1.1 | exact hbw.1.1.1.1 | exact hbw.1.1.1.1.1 | exact hbw.1.1.1.1.1.1 | exact hbw.1.1.1.1.1.1.1)) ?_; intro y; obtain ⟨⟨v1, v2⟩, ⟨v3, v4⟩, v5, v6⟩ := y; dsimp only)
        | ((with_reducible show CallEv _ _ 41 _ _ _ _ _); refine callF [] (fun z : Option Addr × Nat => .tuple #[.agg #[iv 0, iv 0], sV 0 z, iv 1]) (fun z => Rd 1 iF (sV 0 z) ([] : List Int)) (fun β w' _ hbw => h41 ((_, _), (_, _), (_, _)) w' hbw.2) ?_; intro z; obtain ⟨z1, z2⟩ := z; dsimp only)
        | ((with_reducible show CallEv _ _ 42 _ _ _ _ _); refine callF [] (fun z : Option Addr × Nat => .tuple #[.agg #[iv 0, iv 0], sV 0 z, iv 1]) (fun z => Rd 1 iF (sV 0 z) ([] : List Int)) (fun β w' _ hbw => h42 ((_, _), (_, _), (_, _)) w' hbw.2) ?_; intro z; obtain ⟨x1, x2⟩ := z; dsimp only)
        | refine eqlE95 (q := true) (by simp) ?_
        | refine neqE95 (q := false) (by simp) ?_
      all_goals first | (exfalso; omega) | exact ⟨fun β => rfl, fun w' h => (by first | exact h | exact h.1 | exact h.1.1 | exact h.1.1.1 | exact h.1.1.1.1 | exact h.1.1.1.1.1 | exact h.1.1.1.1.1.1 | exact h.1.1.1.1.1.1.1)⟩
    | true =>
      rw [hr] at h27
      have h43 := fun (w' : World) (hb : Below w.heap.size w w') => OverR_ok r PP BB LL w' (hX.below hb) hr
      have h44 := fun (w' : World) (hb : Below w.heap.size w w') => SlackR_ok r PP BB LL w' (hX.below hb) hr
      have h41 := fun (y : (Option Addr × Nat) × (Option Addr × Nat) × (Option Addr × Nat)) (w' : World) (h : nrH PP BB LL y w') => Over_nr PP BB LL r.f0 r.f1 r.f2 r (ovO r PP BB LL (frF BB LL)) (by rw [hr]; rfl) ⟨rfl, rfl, rfl⟩ y w' h (by omega) (by omega) (by omega)
      have h42 := fun (y : (Option Addr × Nat) × (Option Addr × Nat) × (Option Addr × Nat)) (w' : World) (h : nrH PP BB LL y w') => Slack_nr PP BB LL r.f0 r.f1 r.f2 r (slO r BB LL (frF BB LL)) (by rw [hr]; rfl) ⟨rfl, rfl, rfl⟩ y w' h (by omega) (by omega) (by omega)
      rw [hr] at h41 h42
      generalize ovO r PP BB LL (frF BB LL) = W1 at *
      generalize slO r BB LL (frF BB LL) = W2 at *
      have l1 := pl_len r LL true W1
      have l2 := pl_len r LL false W2
      rcases W1 with _ | ⟨b1, a1, r1⟩ <;> rcases W2 with _ | ⟨b2, a2, r2⟩
      · obtain ⟨po, pn, pc, bo, bn, bc, f0, f1, f2, lo, ln, lc⟩ := r
        dsimp only [Wk.b, Wk.a, Wk.pl, Wk.e, Option.isSome] at h33 h30 h41 h42 h43 h44 hpn hbn hln l1 l2
        refine calls_val env mixed Try.func9 has9 Try.ntmps9 [.agg #[.slice po pn pc, .slice bo bn bc, iv f0, iv f1, iv f2, .slice lo ln lc]] (by simp) ?_
        repeat'
         conv => whnf
         first
          | refine zA ?_ | refine zB ?_ | refine zC ?_ | refine zD ?_ | refine zE ?_ | refine zF ?_ | refine zG ?_ | refine zH ?_ | refine zI ?_ | refine splT ?_ | refine splF ?_ | refine splNot ?_
          | ((first | refine splIn (fun hc => ?_) (fun hc => ?_) | refine splD (fun hc => ?_) (fun hc => ?_) | refine splE (fun hc => ?_) (fun hc => ?_) | refine splNE (fun hc => ?_) (fun hc => ?_)) <;> first | (exfalso; omega) | (exfalso; dsimp only at hc; omega) | skip)
          | ((with_reducible show CallEv _ _ 33 _ _ _ _ _); refine callE (k := 33) (fun β w' hbw => h33 _) ?_)
          | ((with_reducible show CallEv _ _ 16 _ _ _ _ _); refine callE (k := 16) (fun β w' hbw => awake_ok _) ?_)
          | ((with_reducible show CallEv _ _ 27 _ _ _ _ _); refine callE (k := 27) (fun β w' hbw => h27 _ (by first | exact hbw | exact hbw.1 | exact hbw.1.1 | exact hbw.1.1.1 | exact hbw.1.1.1.1 | exact hbw.1.1.1.1.1 | exact hbw.1.1.1.1.1.1 | exact hbw.1.1.1.1.1.1.1)) ?_)
          | ((with_reducible show CallEv _ _ 30 _ _ _ _ _); refine callF [] (nrV PP BB LL f0 f1 f2) (nrH PP BB LL) (fun β w' _ hbw => h30 w' (by first | exact hbw | exact hbw.1 | exact hbw.1.1 | exact hbw.1.1.1 | exact hbw.1.1.1.1 | exact hbw.1.1.1.1.1 | exact hbw.1.1.1.1.1.1 | exact hbw.1.1.1.1.1.1.1)) ?_; intro y; obtain ⟨⟨v1, v2⟩, ⟨v3, v4⟩, v5, v6⟩ := y; dsimp only)
          | ((with_reducible show CallEv _ _ 41 _ _ _ _ _); refine callF [] (fun z : Option Addr × Nat => .tuple #[.agg #[iv 0, iv 0], sV 0 z, iv 7]) (fun z => Rd 1 iF (sV 0 z) ([] : List Int)) (fun β w' _ hbw => h41 ((_, _), (_, _), (_, _)) w' hbw.2) ?_; intro z; obtain ⟨z1, z2⟩ := z; dsimp only)
          | ((with_reducible show CallEv _ _ 42 _ _ _ _ _); refine callF [] (fun z : Option Addr × Nat => .tuple #[.agg #[iv 0, iv 0], sV 0 z, iv 7]) (fun z => Rd 1 iF (sV 0 z) ([] : List Int)) (fun β w' _ hbw => h42 ((_, _), (_, _), (_, _)) w' hbw.2) ?_; intro z; obtain ⟨x1, x2⟩ := z; dsimp only)
          | ((with_reducible show CallEv _ _ 43 _ _ _ _ _); refine callF [] (fun z : Option Addr × Nat => .tuple #[.agg #[iv 0, iv 0], sV 0 z, .bool false]) (fun z => Rd 1 iF (sV 0 z) ([] : List Int)) (fun β w' _ hbw => h43 w' (by first | exact hbw | exact hbw.1 | exact hbw.1.1 | exact hbw.1.1.1 | exact hbw.1.1.1.1 | exact hbw.1.1.1.1.1 | exact hbw.1.1.1.1.1.1 | exact hbw.1.1.1.1.1.1.1)) ?_; intro z; obtain ⟨u1, u2⟩ := z; dsimp only)
          | ((with_reducible show CallEv _ _ 44 _ _ _ _ _); refine callF [] (fun z : Option Addr × Nat => .tuple #[.agg #[iv 0, iv 0], sV 0 z, .bool false]) (fun z => Rd 1 iF (sV 0 z) ([] : List Int)) (fun β w' _ hbw => h44 w' (by first | exact hbw | exact hbw.1 | exact hbw.1.1 | exact hbw.1.1.1 | exact hbw.1.1.1.1 | exact hbw.1.1.1.1.1 | exact hbw.1.1.1.1.1.1 | exact hbw.1.1.1.1.1.1.1)) ?_; intro z; obtain ⟨w1, w2⟩ := z; dsimp only)
          | ((with_reducible show CallEv _ _ 25 [.v (sV _ (z1, z2)), _] _ _ _ _); refine callE (k := 25) (fun β w' hbw => h25 _ _ _ _ _ w' (by show ([] : List Int).length ≤ 1000000; omega) hbw.1.1.1.1.2 hbw.1.2) ?_)
          | ((with_reducible show CallEv _ _ 25 [.v (sV _ (x1, x2)), _] _ _ _ _); refine callE (k := 25) (fun β w' hbw => h25 _ _ _ _ _ w' (by show ([] : List Int).length ≤ 1000000; omega) hbw.1.1.2 hbw.2) ?_)
          | refine eqlE95 (q := true) (by simp) ?_
          | refine neqE95 (q := false) (by simp) ?_
        all_goals first | (exfalso; omega) | exact ⟨fun β => rfl, fun w' h => (by first | exact h | exact h.1 | exact h.1.1 | exact h.1.1.1 | exact h.1.1.1.1 | exact h.1.1.1.1.1 | exact h.1.1.1.1.1.1 | exact h.1.1.1.1.1.1.1)⟩
      · obtain ⟨po, pn, pc, bo, bn, bc, f0, f1, f2, lo, ln, lc⟩ := r
        dsimp only [Wk.b, Wk.a, Wk.pl, Wk.e, Option.isSome] at h33 h30 h41 h42 h43 h44 hpn hbn hln l1 l2
        generalize endL ⟨po, pn, pc, bo, bn, bc, f0, f1, f2, lo, ln, lc⟩ r2 false LL = P2 at *
        refine calls_val env mixed Try.func9 has9 Try.ntmps9 [.agg #[.slice po pn pc, .slice bo bn bc, iv f0, iv f1, iv f2, .slice lo ln lc]] (by simp) ?_
        repeat'
         conv => whnf
         first
          | refine zA ?_ | refine zB ?_ | refine zC ?_ | refine zD ?_ | refine zE ?_ | refine zF ?_ | refine zG ?_ | refine zH ?_ | refine zI ?_ | refine splT ?_ | refine splF ?_ | refine splNot ?_
          | ((first | refine splIn (fun hc => ?_) (fun hc => ?_) | refine splD (fun hc => ?_) (fun hc => ?_) | refine splE (fun hc => ?_) (fun hc => ?_) | refine splNE (fun hc => ?_) (fun hc => ?_)) <;> first | (exfalso; omega) | (exfalso; dsimp only at hc; omega) | skip)
          | ((with_reducible show CallEv _ _ 33 _ _ _ _ _); refine callE (k := 33) (fun β w' hbw => h33 _) ?_)
          | ((with_reducible show CallEv _ _ 16 _ _ _ _ _); refine callE (k := 16) (fun β w' hbw => awake_ok _) ?_)
          | ((with_reducible show CallEv _ _ 27 _ _ _ _ _); refine callE (k := 27) (fun β w' hbw => h27 _ (by first | exact hbw | exact hbw.1 | exact hbw.1.1 | exact hbw.1.1.1 | exact hbw.1.1.1.1 | exact hbw.1.1.1.1.1 | exact hbw.1.1.1.1.1.1 | exact hbw.1.1.1.1.1.1.1)) ?_)
          | ((with_reducible show CallEv _ _ 30 _ _ _ _ _); refine callF [] (nrV PP BB LL f0 f1 f2) (nrH PP BB LL) (fun β w' _ hbw => h30 w' (by first | exact hbw | exact hbw.1 | exact hbw.1.1 | exact hbw.1.1.1 | exact hbw.1.1.1.1 | exact hbw.1.1.1.1.1 | exact hbw.1.1.1.1.1.1 | exact hbw.1.1.1.1.1.1.1)) ?_; intro y; obtain ⟨⟨v1, v2⟩, ⟨v3, v4⟩, v5, v6⟩ := y; dsimp only)
          | ((with_reducible show CallEv _ _ 41 _ _ _ _ _); refine callF [] (fun z : Option Addr × Nat => .tuple #[.agg #[iv 0, iv 0], sV 0 z, iv 7]) (fun z => Rd 1 iF (sV 0 z) ([] : List Int)) (fun β w' _ hbw => h41 ((_, _), (_, _), (_, _)) w' hbw.2) ?_; intro z; obtain ⟨z1, z2⟩ := z; dsimp only)
          | ((with_reducible show CallEv _ _ 42 _ _ _ _ _); refine callF [] (fun z : Option Addr × Nat => .tuple #[.agg #[iv b2, iv a2], sV P2.length z, iv 0]) (fun z => Rd 1 iF (sV P2.length z) P2) (fun β w' _ hbw => h42 ((_, _), (_, _), (_, _)) w' hbw.2) ?_; intro z; obtain ⟨x1, x2⟩ := z; dsimp only)
          | ((with_reducible show CallEv _ _ 43 _ _ _ _ _); refine callF [] (fun z : Option Addr × Nat => .tuple #[.agg #[iv 0, iv 0], sV 0 z, .bool false]) (fun z => Rd 1 iF (sV 0 z) ([] : List Int)) (fun β w' _ hbw => h43 w' (by first | exact hbw | exact hbw.1 | exact hbw.1.1 | exact hbw.1.1.1 | exact hbw.1.1.1.1 | exact hbw.1.1.1.1.1 | exact hbw.1.1.1.1.1.1 | exact hbw.1.1.1.1.1.1.1)) ?_; intro z; obtain ⟨u1, u2⟩ := z; dsimp only)
          | ((with_reducible show CallEv _ _ 44 _ _ _ _ _); refine callF [] (fun z : Option Addr × Nat => .tuple #[.agg #[iv b2, iv a2], sV P2.length z, .bool true]) (fun z => Rd 1 iF (sV P2.length z) P2) (fun β w' _ hbw => h44 w' (by first | exact hbw | exact hbw.1 | exact hbw.1.1 | exact hbw.1.1.1 | exact hbw.1.1.1.1 | exact hbw.1.1.1.1.1 | exact hbw.1.1.1.1.1.1 | exact hbw.1.1.1.1.1.1.1)) ?_; intro z; obtain ⟨w1, w2⟩ := z; dsimp only)
          | ((with_reducible show CallEv _ _ 25 [.v (sV _ (z1, z2)), _] _ _ _ _); refine callE (k := 25) (fun β w' hbw => h25 _ _ _ _ _ w' (by show ([] : List Int).length ≤ 1000000; omega) hbw.1.1.1.1.2 hbw.1.2) ?_)
          | ((with_reducible show CallEv _ _ 25 [.v (sV _ (x1, x2)), _] _ _ _ _); refine callE (k := 25) (fun β w' hbw => h25 _ _ _ _ _ w' (by show P2.length ≤ 1000000; omega) hbw.1.1.2 hbw.2) ?_)
          | refine eqlE95 (q := true) (by simp) ?_
          | refine neqE95 (q := false) (by simp) ?_
        all_goals first | (exfalso; omega) | exact ⟨fun β => rfl, fun w' h => (by first | exact h | exact h.1 | exact h.1.1 | exact h.1.1.1 | exact h.1.1.1.1 | exact h.1.1.1.1.1 | exact h.1.1.1.1.1.1 | exact h.1.1.1.1.1.1.1)⟩
      · obtain ⟨po, pn, pc, bo, bn, bc, f0, f1, f2, lo, ln, lc⟩ := r
        dsimp only [Wk.b, Wk.a, Wk.pl, Wk.e, Option.isSome] at h33 h30 h41 h42 h43 h44 hpn hbn hln l1 l2
        generalize endL ⟨po, pn, pc, bo, bn, bc, f0, f1, f2, lo, ln, lc⟩ r1 true LL = P1 at *
        refine calls_val env mixed Try.func9 has9 Try.ntmps9 [.agg #[.slice po pn pc, .slice bo bn bc, iv f0, iv f1, iv f2, .slice lo ln lc]] (by simp) ?_
        repeat'
         conv => whnf
         first
          | refine zA ?_ | refine zB ?_ | refine zC ?_ | refine zD ?_ | refine zE ?_ | refine zF ?_ | refine zG ?_ | refine zH ?_ | refine zI ?_ | refine splT ?_ | refine splF ?_ | refine splNot ?_
          | ((first | refine splIn (fun hc => ?_) (fun hc => ?_) | refine splD (fun hc => ?_) (fun hc => ?_) | refine splE (fun hc => ?_) (fun hc => ?_) | refine splNE (fun hc => ?_) (fun hc => ?_)) <;> first | (exfalso; omega) | (exfalso; dsimp only at hc; omega) | skip)
          | ((with_reducible show CallEv _ _ 33 _ _ _ _ _); refine callE (k := 33) (fun β w' hbw => h33 _) ?_)
          | ((with_reducible show CallEv _ _ 16 _ _ _ _ _); refine callE (k := 16) (fun β w' hbw => awake_ok _) ?_)
          | ((with_reducible show CallEv _ _ 27 _ _ _ _ _); refine callE (k := 27) (fun β w' hbw => h27 _ (by first | exact hbw | exact hbw.1 | exact hbw.1.1 | exact hbw.1.1.1 | exact hbw.1.1.1.1 | exact hbw.1.1.1.1.1 | exact hbw.1.1.1.1.1.1 | exact hbw.1.1.1.1.1.1.1)) ?_)
          | ((with_reducible show CallEv _ _ 30 _ _ _ _ _); refine callF [] (nrV PP BB LL f0 f1 f2) (nrH PP BB LL) (fun β w' _ hbw => h30 w' (by first | exact hbw | exact hbw.1 | exact hbw.1.1 | exact hbw.1.1.1 | exact hbw.1.1.1.1 | exact hbw.1.1.1.1.1 | exact hbw.1.1.1.1.1.1 | exact hbw.1.1.1.1.1.1.1)) ?_; intro y; obtain ⟨⟨v1, v2⟩, ⟨v3, v4⟩, v5, v6⟩ := y; dsimp only)
          | ((with_reducible show CallEv _ _ 41 _ _ _ _ _); refine callF [] (fun z : Option Addr × Nat => .tuple #[.agg #[iv b1, iv a1], sV P1.length z, iv 0]) (fun z => Rd 1 iF (sV P1.length z) P1) (fun β w' _ hbw => h41 ((_, _), (_, _), (_, _)) w' hbw.2) ?_; intro z; obtain ⟨z1, z2⟩ := z; dsimp only)
          | ((with_reducible show CallEv _ _ 42 _ _ _ _ _); refine callF [] (fun z : Option Addr × Nat => .tuple #[.agg #[iv 0, iv 0], sV 0 z, iv 7]) (fun z => Rd 1 iF (sV 0 z) ([] : List Int)) (fun β w' _ hbw => h42 ((_, _), (_, _), (_, _)) w' hbw.2) ?_; intro z; obtain ⟨x1, x2⟩ := z; dsimp only)
          | ((with_reducible show CallEv _ _ 43 _ _ _ _ _); refine callF [] (fun z : Option Addr × Nat => .tuple #[.agg #[iv b1, iv a1], sV P1.length z, .bool true]) (fun z => Rd 1 iF (sV P1.length z) P1) (fun β w' _ hbw => h43 w' (by first | exact hbw | exact hbw.1 | exact hbw.1.1 | exact hbw.1.1.1 | exact hbw.1.1.1.1 | exact hbw.1.1.1.1.1 | exact hbw.1.1.1.1.1.1 | exact hbw.1.1.1.1.1.1.1)) ?_; intro z; obtain ⟨u1, u2⟩ := z; dsimp only)
          | ((with_reducible show CallEv _ _ 44 _ _ _ _ _); refine callF [] (fun z : Option Addr × Nat => .tuple #[.agg #[iv 0, iv 0], sV 0 z, .bool false]) (fun z => Rd 1 iF (sV 0 z) ([] : List Int)) (fun β w' _ hbw => h44 w' (by first | exact hbw | exact hbw.1 | exact hbw.1.1 | exact hbw.1.1.1 | exact hbw.1.1.1.1 | exact hbw.1.1.1.1.1 | exact hbw.1.1.1.1.1.1 | exact hbw.1.1.1.1.1.1.1)) ?_; intro z; obtain ⟨w1, w2⟩ := z; dsimp only)
          | ((with_reducible show CallEv _ _ 25 [.v (sV _ (z1, z2)), _] _ _ _ _); refine callE (k := 25) (fun β w' hbw => h25 _ _ _ _ _ w' (by show P1.length ≤ 1000000; omega) hbw.1.1.1.1.2 hbw.1.2) ?_)
          | ((with_reducible show CallEv _ _ 25 [.v (sV _ (x1, x2)), _] _ _ _ _); refine callE (k := 25) (fun β w' hbw => h25 _ _ _ _ _ w' (by show ([] : List Int).length ≤ 1000000; omega) hbw.1.1.2 hbw.2) ?_)
          | refine eqlE95 (q := true) (by simp) ?_
          | refine neqE95 (q := false) (by simp) ?_
        all_goals first | (exfalso; omega) | exact ⟨fun β => rfl, fun w' h => (by first | exact h | exact h.1 | exact h.1.1 | exact h.1.1.1 | exact h.1.1.1.1 | exact h.1.1.1.1.1 | exact h.1.1.1.1.1.1 | exact h.1.1.1.1.1.1.1)⟩
      · obtain ⟨po, pn, pc, bo, bn, bc, f0, f1, f2, lo, ln, lc⟩ := r
        dsimp only [Wk.b, Wk.a, Wk.pl, Wk.e, Option.isSome] at h33 h30 h41 h42 h43 h44 hpn hbn hln l1 l2
        generalize endL ⟨po, pn, pc, bo, bn, bc, f0, f1, f2, lo, ln, lc⟩ r1 true LL = P1 at *
        generalize endL ⟨po, pn, pc, bo, bn, bc, f0, f1, f2, lo, ln, lc⟩ r2 false LL = P2 at *
        refine calls_val env mixed Try.func9 has9 Try.ntmps9 [.agg #[.slice po pn pc, .slice bo bn bc, iv f0, iv f1, iv f2, .slice lo ln lc]] (by simp) ?_
        repeat'
         conv => whnf
         first
          | refine zA ?_ | refine zB ?_ | refine zC ?_ | refine zD ?_ | refine zE ?_ | refine zF ?_ | refine zG ?_ | refine zH ?_ | refine zI ?_ | refine splT ?_ | refine splF ?_ | refine splNot ?_
          | ((first | refine splIn (fun hc => ?_) (fun hc => ?_) | refine splD (fun hc => ?_) (fun hc => ?_) | refine splE (fun hc => ?_) (fun hc => ?_) | refine splNE (fun hc => ?_) (fun hc => ?_)) <;> first | (exfalso; omega) | (exfalso; dsimp only at hc; omega) | skip)
          | ((with_reducible show CallEv _ _ 33 _ _ _ _ _); refine callE (k := 33) (fun β w' hbw => h33 _) ?_)
          | ((with_reducible show CallEv _ _ 16 _ _ _ _ _); refine callE (k := 16) (fun β w' hbw => awake_ok _) ?_)
          | ((with_reducible show CallEv _ _ 27 _ _ _ _ _); refine callE (k := 27) (fun β w' hbw => h27 _ (by first | exact hbw | exact hbw.1 | exact hbw.1.1 | exact hbw.1.1.1 | exact hbw.1.1.1.1 | exact hbw.1.1.1.1.1 | exact hbw.1.1.1.1.1.1 | exact hbw.1.1.1.1.1.1.1)) ?_)
          | ((with_reducible show CallEv _ _ 30 _ _ _ _ _); refine callF [] (nrV PP BB LL f0 f1 f2) (nrH PP BB LL) (fun β w' _ hbw => h30 w' (by first | exact hbw | exact hbw.1 | exact hbw.1.1 | exact hbw.1.1.1 | exact hbw.1.1.1.1 | exact hbw.1.1.1.1.1 | exact hbw.1.1.1.1.1.1 | exact hbw.1.1.1.1.1.1.1)) ?_; intro y; obtain ⟨⟨v1, v2⟩, ⟨v3, v4⟩, v5, v6⟩ := y; dsimp only)
          | ((with_reducible show CallEv _ _ 41 _ _ _ _ _); refine callF [] (fun z : Option Addr × Nat => .tuple #[.agg #[iv b1, iv a1], sV P1.length z, iv 0]) (fun z => Rd 1 iF (sV P1.length z) P1) (fun β w' _ hbw => h41 ((_, _), (_, _), (_, _)) w' hbw.2) ?_; intro z; obtain ⟨z1, z2⟩ := z; dsimp only)
          | ((with_reducible show CallEv _ _ 42 _ _ _ _ _); refine callF [] (fun z : Option Addr × Nat => .tuple #[.agg #[iv b2, iv a2], sV P2.length z, iv 0]) (fun z => Rd 1 iF (sV P2.length z) P2) (fun β w' _ hbw => h42 ((_, _), (_, _), (_, _)) w' hbw.2) ?_; intro z; obtain ⟨x1, x2⟩ := z; dsimp only)
          | ((with_reducible show CallEv _ _ 43 _ _ _ _ _); refine callF [] (fun z : Option Addr × Nat => .tuple #[.agg #[iv b1, iv a1], sV P1.length z, .bool true]) (fun z => Rd 1 iF (sV P1.length z) P1) (fun β w' _ hbw => h43 w' (by first | exact hbw | exact hbw.1 | exact hbw.1.1 | exact hbw.1.1.1 | exact hbw.1.1.1.1 | exact hbw.1.1.1.1.1 | exact hbw.1.1.1.1.1.1 | exact hbw.1.1.1.1.1.1.1)) ?_; intro z; obtain ⟨u1, u2⟩ := z; dsimp only)
          | ((with_reducible show CallEv _ _ 44 _ _ _ _ _); refine callF [] (fun z : Option Addr × Nat => .tuple #[.agg #[iv b2, iv a2], sV P2.length z, .bool true]) (fun z => Rd 1 iF (sV P2.length z) P2) (fun β w' _ hbw => h44 w' (by first | exact hbw | exact hbw.1 | exact hbw.1.1 | exact hbw.1.1.1 | exact hbw.1.1.1.1 | exact hbw.1.1.1.1.1 | exact hbw.1.1.1.1.1.1 | exact hbw.1.1.1.1.1.1.1)) ?_; intro z; obtain ⟨w1, w2⟩ := z; dsimp only)
          | ((with_reducible show CallEv _ _ 25 [.v (sV _ (z1, z2)), _] _ _ _ _); refine callE (k := 25) (fun β w' hbw => h25 _ _ _ _ _ w' (by show P1.length ≤ 1000000; omega) hbw.1.1.1.1.2 hbw.1.2) ?_)
          | ((with_reducible show CallEv _ _ 25 [.v (sV _ (x1, x2)), _] _ _ _ _); refine callE (k := 25) (fun β w' hbw => h25 _ _ _ _ _ w' (by show P2.length ≤ 1000000; omega) hbw.1.1.2 hbw.2) ?_)
          | refine eqlE95 (q := true) (by simp) ?_
          | refine neqE95 (q := false) (by simp) ?_
        all_goals first | (exfalso; omega) | exact ⟨fun β => rfl, fun w' h => (by first | exact h | exact h.1 | exact h.1.1 | exact h.1.1.1 | exact h.1.1.1.1 | exact h.1.1.1.1.1 | exact h.1.1.1.1.1.1 | exact h.1.1.1.1.1.1.1)⟩
end Go.Proofs.Ytaciigegbgnadaa
