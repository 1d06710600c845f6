/- SchoolCatches: the plain law: the last week; a row of counts that is written. -/
import Derived.Test.YtpleibfohjbneaaGreatT8
import Derived.Test.YtpleibfohjbneaaGreatT3
namespace Go.Proofs.YtpleibfohjbneaaGreat
open Go Tx Go.RowKit
set_option linter.unusedSimpArgs false
set_option linter.unusedVariables false

theorem atA' {L : List Int} {k : Nat} {n : Int} (h : L[k]? = some n) : ∀ j v, [iv n][j]? = some v → (L.flatMap iF)[(k : Int).toNat * 1 + j]? = some v := fun j v hj => by
  match j, hj with
  | 0, hj => cases hj; rw [Int.toNat_natCast, Nat.mul_one, Nat.add_zero]; exact atF h
/-- A row whose first hours count 1000. -/
def rJ (row : List Int) (j : Nat) : List Int := List.replicate j 1000 ++ row.drop j
theorem rJ_len {row : List Int} {j : Nat} (h : j ≤ row.length) : (rJ row j).length = row.length := by simp [rJ]; omega
theorem rJ_set {row : List Int} {j : Nat} (h : j < row.length) : (rJ row j).set j 1000 = rJ row (j + 1) := by
  rw [rJ, List.set_append, if_neg (by simp), List.length_replicate, Nat.sub_self, List.drop_eq_getElem_cons h, List.set_cons_zero, rJ, List.replicate_succ', List.append_assoc]; rfl
theorem rJ_full {row : List Int} : rJ row row.length = List.replicate row.length 1000 := by simp [rJ]
def cJ (CC : List (List Int)) (k j : Nat) : List (List Int) := CC.set k (rJ ((CC[k]?).getD []) j)
theorem cJ_zero {CC : List (List Int)} {k : Nat} : cJ CC k 0 = CC := by
  refine List.ext_getElem? fun p => ?_
  rw [cJ, List.getElem?_set]
  by_cases h : k = p
  · subst h
    rw [if_pos rfl]
    cases hp : CC[k]? with
    | none => have := List.getElem?_eq_none_iff.1 hp; rw [if_neg (by omega)]
    | some l => rw [if_pos (List.getElem?_eq_some_iff.1 hp).1]; simp [rJ]
  · rw [if_neg h]
theorem cJ_at {CC : List (List Int)} {k j : Nat} {row : List Int} (h : CC[k]? = some row) : (cJ CC k j)[k]? = some (rJ row j) := by
  rw [cJ, List.getElem?_set, if_pos rfl, if_pos (List.getElem?_eq_some_iff.1 h).1, h]; rfl
theorem cJ_succ {CC : List (List Int)} {k j : Nat} {row : List Int} (h : CC[k]? = some row) (hj : j < row.length) : cJ CC k (j + 1) = (cJ CC k j).set k ((rJ row j).set j 1000) := by
  rw [rJ_set hj, cJ, cJ, List.set_set, h]; rfl
theorem cJ_len {CC : List (List Int)} {k j : Nat} : (cJ CC k j).length = CC.length := by simp [cJ]
theorem At_set {CC C2 : List (List Int)} {av : Nat → Prop} {y : RwG CC} {w : World} {i j : Nat} {r : Ro} {xs0 : List Int} {v : Int} {a : Addr} (h : y.At av C2 w) (hr : y.D[i]? = some r) (hx0 : C2[i]? = some xs0) (hj : j < xs0.length) (ha : a = ⟨r.b, j, none⟩) :
    y.At av (C2.set i (xs0.set j v)) (w.setCell a (iv v)) := by
  subst ha
  obtain ⟨⟨h3, h4⟩, ⟨h5, h6⟩, h7⟩ := h
  have hm := List.mem_of_getElem? hr
  refine ⟨⟨rd_set h3 (h7 r hm).symm, fun p q xs hq hx => ?_⟩, ⟨h5, h6⟩, h7⟩
  by_cases hp : p = i
  · subst hp
    rw [hr, Option.some.injEq] at hq
    subst hq
    rw [List.getElem?_set, if_pos rfl, if_pos (List.getElem?_eq_some_iff.1 hx0).1, Option.some.injEq] at hx
    subst hx
    obtain ⟨q1, q2⟩ := h4 p r xs0 hr hx0
    refine ⟨by rw [List.length_set]; exact q1, ?_⟩
    have := (World.ownsRow.stored q2 j (iv v)).1
    have e : (xs0.flatMap iF).set j (iv v) = (xs0.set j v).flatMap iF := by
      rw [← setF hj, List.set_eq_take_append_cons_drop, if_pos (by rw [lenF]; exact hj)]; rfl
    rw [e] at this
    simp only [Ro.In, Ro.ad, List.length_set]
    exact this
  · rw [List.getElem?_set, if_neg (fun e => hp e.symm)] at hx
    obtain ⟨q1, q2⟩ := h4 p q xs hq hx
    refine ⟨q1, ownsRow_setCell_other q2 ?_ _⟩
    simp only [Value.ownBlock, ne_eq, Option.some.injEq]
    intro e
    have e1 : (y.D.map Ro.b)[p]? = some q.b := by rw [List.getElem?_map, hq]; rfl
    have e2 : (y.D.map Ro.b)[i]? = some r.b := by rw [List.getElem?_map, hr]; rfl
    have e : q.b = r.b := e
    rw [e] at e1
    have l1 := (List.getElem?_eq_some_iff.1 e1).1
    exact hp ((List.getElem?_inj l1 h5).1 (e1.trans e2.symm))
theorem At_at {CC C2 : List (List Int)} {av : Nat → Prop} {y : RwG CC} {w : World} {i j : Nat} {r : Ro} {xs0 : List Int} {a : Addr} (h : y.At av C2 w) (hr : y.D[i]? = some r) (hx0 : C2[i]? = some xs0) (hj : j < xs0.length) (ha : a = ⟨r.b, j, none⟩) :
    (∃ cs ty fr, w.heap[a.block]? = some (.cells cs ty fr) ∧ a.off < cs.size) ∧ w.frozen? a = false := by
  subst ha
  obtain ⟨q1, q2⟩ := h.1.2 i r xs0 hr hx0
  have q3 := q2
  obtain ⟨e1, (⟨h1, _⟩ | ⟨g, cap, cur, h1, _, h2, h3, _, h4, h5⟩)⟩ := q3
  · cases h1
  · simp only [Value.slice.injEq, Option.some.injEq, Addr.mk.injEq] at h1
    obtain ⟨⟨rfl, _⟩, _⟩ := h1
    refine ⟨⟨cur, _, _, h2, ?_⟩, World.ownsRow.frozenAt q2 j⟩
    show j < cur.size
    have h3 : xs0.length ≤ _ := h3
    omega
/-- What one reads off such rows. -/
theorem At_rws {CC C2 : List (List Int)} {av : Nat → Prop} {y : RwG CC} {w : World} (h : y.At av C2 w) (hl : C2.length = CC.length) : ∃ (C1 : List Rw) (hC1 : C1.map Rw.xs = C2), C1.length = y.D.length ∧ C1 = (y.D.zip C2).map (fun p => ⟨some p.1.ad, p.1.c, p.2⟩) ∧ (⟨some y.o, y.c, C1, hC1⟩ : Rws C2).In w := by
  have hD : y.D.length = CC.length := by have := congrArg List.length y.h; simpa using this
  have hz : ((y.D.zip C2).map (fun p => (⟨some p.1.ad, p.1.c, p.2⟩ : Rw))).length = y.D.length := by simp; omega
  refine ⟨(y.D.zip C2).map (fun p => ⟨some p.1.ad, p.1.c, p.2⟩), ?_, hz, rfl, ?_, fun r hr => ?_⟩
  · rw [List.map_map]
    have : (Rw.xs ∘ fun p : Ro × List Int => (⟨some p.1.ad, p.1.c, p.2⟩ : Rw)) = Prod.snd := rfl
    rw [this, List.map_snd_zip (by omega)]
  · rcases h.1.1 with ⟨h4, _⟩ | ⟨ad, c', h4, h5⟩
    · cases h4
    · simp only [Value.slice.injEq, Option.some.injEq] at h4
      refine .inr ⟨ad, c', by simp only [Value.slice.injEq, Option.some.injEq]; exact ⟨h4.1, trivial, h4.2.2⟩, fun k b hb j v hv => ?_⟩
      rw [List.getElem?_map] at hb
      cases hp : (y.D.zip C2)[k]? with
      | none => rw [hp] at hb; cases hb
      | some p =>
        rw [hp, Option.map_some, Option.some.injEq] at hb
        subst hb
        rw [List.getElem?_zip_eq_some] at hp
        refine h5 k p.1.rw (by rw [List.getElem?_map, hp.1]; rfl) j v ?_
        have := (h.1.2 k p.1 p.2 hp.1 hp.2).1
        show [Value.slice (some p.1.ad) p.1.xs.length p.1.c][j]? = some v
        rw [← this]
        exact hv
  · obtain ⟨p, hp, rfl⟩ := List.mem_map.1 hr
    obtain ⟨k, hk⟩ := List.mem_iff_getElem?.1 hp
    rw [List.getElem?_zip_eq_some] at hk
    exact Ro.rd (h.1.2 k p.1 p.2 hk.1 hk.2).2

theorem crOk_set {N : List Int} {wk : Int} {CC : List (List Int)} {k : Nat} (h : crOk N wk CC = true) : crOk N wk (CC.set k (List.replicate N.length 1000)) = true := by
  simp only [crOk, Bool.and_eq_true, List.length_set] at *
  refine ⟨h.1, ?_⟩
  rw [List.all_eq_true] at *
  intro l hl
  rcases List.mem_or_eq_of_mem_set hl with hl | rfl
  · exact h.2 l hl
  · simp [rowOk, evB, inB]
theorem nx_bd {N : List Int} {wk : Int} {CC : List (List Int)} {SS : List (Int × List Int)} {j : Nat} (h : (SS.length : Int) < wk) : 0 ≤ nxV N wk CC SS j ∧ nxV N wk CC SS j ≤ 20 := by
  unfold nxV
  have h1 : 0 ≤ lfV N CC SS j := by unfold lfV; rw [imax_eq]; omega
  have h2 : 0 ≤ (lfV N CC SS j + (wk - (SS.length : Int)) - 1).tdiv (wk - (SS.length : Int)) := Int.tdiv_nonneg (by omega) (by omega)
  rw [imin_eq]
  omega
theorem nx_next {N : List Int} {wk : Int} {CC : List (List Int)} {SS : List (Int × List Int)} {k : Nat} (h : ckE N wk CC SS = 0) (hk : k < CC.length) (hl : (SS.length : Int) < wk) : ckE N wk CC (SS ++ [((k : Int), (List.range N.length).map (nxV N wk CC SS))]) = 0 := by
  obtain ⟨h1, h2⟩ := ckE_cr h
  obtain ⟨h3, h4⟩ := stE_all h2
  refine ckE_of h1 (stE_of (by simp; omega) ?_)
  rw [List.all_append, h4, Bool.true_and, List.all_cons, List.all_nil, Bool.and_true]
  simp only [stOk, inB, Bool.and_eq_true, decide_eq_true_eq, evB, List.all_eq_true, List.mem_map, List.mem_range, forall_exists_index, and_imp, List.length_map, List.length_range]
  refine ⟨by omega, trivial, fun n j hj e => ?_⟩
  subst e
  have := nx_bd (N := N) (CC := CC) (j := j) hl
  omega
/-- Behind the last week nothing is left, if there were less than 20 lessons to do. -/
theorem catch_last {N : List Int} {wk : Int} {CC : List (List Int)} {SS : List (Int × List Int)} {k j : Nat} (h : ckE N wk CC SS = 0) (hrow : CC[k]? = some (List.replicate N.length 1000)) (hl : (SS.length : Int) + 1 = wk) (hj : j < N.length) (hlt : nxV N wk CC SS j < 20) :
    lfV N CC (SS ++ [((k : Int), (List.range N.length).map (nxV N wk CC SS))]) j = 0 := by
  have hy := YrOk.of h
  have hb := hy.bd j SS.length
  rw [List.take_length] at hb
  have ht : tmS CC j ((k : Int), (List.range N.length).map (nxV N wk CC SS)) = nxV N wk CC SS j * 1000 := by
    unfold tmS
    have e1 : gt ((List.range N.length).map (nxV N wk CC SS)) j = nxV N wk CC SS j := gt_some (by rw [List.getElem?_map, List.getElem?_range hj]; rfl)
    have e2 : rwA CC (k : Int) = List.replicate N.length 1000 := by unfold rwA; rw [Int.toNat_natCast, hrow]; rfl
    rw [e2, show gt (List.replicate N.length (1000 : Int)) j = 1000 from gt_some (by rw [List.getElem?_replicate, if_pos hj])]
    dsimp only
    rw [e1]
  have hn := nx_bd (N := N) (CC := CC) (SS := SS) (j := j) (by omega : (SS.length : Int) < wk)
  have hv : nxV N wk CC SS j = lfV N CC SS j := by
    have e : nxV N wk CC SS j = imin 20 (lfV N CC SS j) := by
      unfold nxV
      rw [show wk - (SS.length : Int) = 1 from by omega, show lfV N CC SS j + 1 - 1 = lfV N CC SS j from by omega, Int.tdiv_one]
    rw [e, imin_eq] at hlt ⊢
    omega
  have hh : hsV CC (SS ++ [((k : Int), (List.range N.length).map (nxV N wk CC SS))]) j = hsV CC SS j + nxV N wk CC SS j := by
    unfold hsV
    rw [hsS_app, show hsS CC [((k : Int), (List.range N.length).map (nxV N wk CC SS))] j = nxV N wk CC SS j * 1000 from by simp only [hsS, List.map_cons, List.map_nil, List.sum_cons, List.sum_nil, ht]; omega]
    rw [Int.tdiv_eq_ediv_of_nonneg (by omega), Int.tdiv_eq_ediv_of_nonneg hb.1]
    omega
  unfold lfV at hv ⊢
  rw [hh, hv]
  simp only [imax_eq]
  omega
end Go.Proofs.YtpleibfohjbneaaGreat
