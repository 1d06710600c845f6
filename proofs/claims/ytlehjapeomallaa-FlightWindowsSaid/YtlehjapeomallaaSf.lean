/- The engine, part 6: the evaluator of single operations is right. -/
import Derived.Test.YtlehjapeomallaaSe
namespace Go.Proofs.Ytlehjapeomallaa.Sx
open Go

section
variable {P : Program} (T : Env P)

theorem efOK_pure {σ : Sg} {s : SV} {rs rb : List Nat} (h : s.lt σ.nb = true) : EfOK σ ⟨s, [], [], rs, rb⟩ :=
  ⟨rfl, by simpa using h, fun i b h => (by cases h), fun i b h => (by cases h), fun i b b' h => (by cases h)⟩

/-- An operation that touches no memory. -/
theorem runOK_pure {o : Oper} {σ : Sg} {s : SV} {rs rb : List Nat} (h : ∀ β a w, Sees σ ⟨s, [], [], rs, rb⟩ β a w → (execOp a.eval o).run P w = .ok (.value (s.c β)) w) : RunOK P o σ ⟨s, [], [], rs, rb⟩ :=
  fun β a w hs => ⟨β, w, EfPost.pure _ rfl rfl β w, .inl (h β a w hs)⟩

theorem valK_spec {agg : Bool} {l : List SV} {K : SV → Prop} (h : valK agg l K) : ∃ s, K s ∧ ((agg = true ∧ s = .agg l) ∨ (agg = false ∧ l = [s])) := by
  cases agg with
  | true => exact ⟨_, h, .inl ⟨rfl, rfl⟩⟩
  | false =>
    match l, h with
    | [s], h => exact ⟨s, h, .inr ⟨rfl, rfl⟩⟩

theorem valK_lt {agg : Bool} {l : List SV} {s : SV} {n : Nat} (h : (agg = true ∧ s = .agg l) ∨ (agg = false ∧ l = [s])) (hl : SV.lts n l = true) : s.lt n = true := by
  rcases h with ⟨_, rfl⟩ | ⟨_, rfl⟩
  · exact hl
  · simpa [SV.lts] using hl

/-- A variable that is loaded, of known cells. -/
theorem run_loadVar_cells {t : TypeId} {ti : TI} (ht : TOK P t ti) {β : Nat → Nat} {w : World} {ad : Addr} {l : List SV} {s : SV} (hl : l.length = ti.size)
    (hc : ∀ j v, (SV.cs β l)[j]? = some v → w.cell? (ad.add j) = some v) (hs : (ti.kind.agg = true ∧ s = .agg l) ∨ (ti.kind.agg = false ∧ l = [s])) :
    (loadVar t ad).run P w = .ok (s.c β) w := by
  unfold loadVar
  rw [Sem.run_bind, ht.run_isAgg w, Result.andThen_ok]
  rcases hs with ⟨ha, rfl⟩ | ⟨ha, rfl⟩
  · rw [ha, if_pos rfl, Sem.run_bind, ht.run_sizeOf w, Result.andThen_ok, Sem.run_bind]
    have hlen : (SV.cs β l).length = ti.size := by rw [SV.cs_eq, List.length_map, hl]
    rw [← hlen, run_loadCells_list w ad (SV.cs β l) hc]
    rfl
  · rw [ha, if_neg (by simp)]
    have h0 := hc 0 (s.c β) (by simp [SV.cs])
    have hadd : ad.add 0 = ad := by simp [Addr.add]
    rw [hadd] at h0
    rw [run_load, h0]

theorem cs_getElem? (β : Nat → Nat) (l : List SV) (j : Nat) : (SV.cs β l)[j]? = (l[j]?).map (SV.c β) := by rw [SV.cs_eq, List.getElem?_map]

theorem own_add (b o j : Nat) : (⟨b, o, none⟩ : Addr).add j = ⟨b, o + j, none⟩ := by unfold Addr.add; split <;> simp_all

theorem foldI_spec {f : Int → Int → Int} {k : IntKind} {step : Value → Value → Sem Value} (hstep : ∀ x y (w : World), (step (.int k x) (.int k y)).run P w = .ok (.int k (f x y)) w) : ∀ (r : List SV) (x : Int) (K : SV → Prop), foldI f k x r K →
    ∃ z : Int, K (.v (.int k z)) ∧ ∀ β w, (List.foldlM step (.int k x) (SV.cs β r) : Sem Value).run P w = .ok (.int k z) w
  | [], x, K, h => ⟨x, h, fun β w => rfl⟩
  | s :: r, x, K, h => by
    cases s with
    | v y =>
      cases y with
      | int k' y =>
        simp only [foldI] at h
        by_cases hk : k = k'
        · subst hk
          simp only [decide_true] at h
          obtain ⟨z, h1, h2⟩ := foldI_spec hstep r (f x y) K h
          refine ⟨z, h1, fun β w => ?_⟩
          simp only [SV.cs, SV.c, List.foldlM_cons, Sem.run_bind, hstep, Result.andThen_ok]
          exact h2 β w
        · simp only [hk, decide_false] at h
      | _ => exact h.elim
    | _ => exact h.elim

theorem fill_spec {place : Nat → Option (Nat × Nat)} : ∀ (parts : List (Nat × SV)) (l : List SV) (K : List SV → Prop), fillK place l parts K →
    ∃ l' : List SV, K l' ∧ (∀ β : Nat → Nat, Instr.fill place (SV.cs β l).toArray (parts.map fun p => (p.1, p.2.c β)) = some (SV.cs β l').toArray) ∧ (∀ n, SV.lts n l = true → (∀ p ∈ parts, p.2.lt n = true) → SV.lts n l' = true)
  | [], l, K, h => ⟨l, h, fun _ => rfl, fun _ h _ => h⟩
  | (i, s) :: r, l, K, h => by
    simp only [fillK] at h
    cases hp : place i with
    | none => rw [hp] at h; exact h.elim
    | some os =>
      obtain ⟨off, size⟩ := os
      rw [hp] at h
      obtain ⟨h1, h2⟩ := h
      have h1 := Nat.eq_of_beq_eq_true h1
      obtain ⟨h3, h4⟩ := splK_spec off l s.cells _ h2
      obtain ⟨l', h5, h6, h7⟩ := fill_spec r _ K h4
      refine ⟨l', h5, fun β => ?_, fun n hl hps => h7 n (lts_append (lts_append (lts_take hl) (SV.cells_lt (hps _ List.mem_cons_self))) (lts_drop hl)) fun p hp => hps p (List.mem_cons_of_mem _ hp)⟩
      have hsz : (s.c β).cells.size = s.cells.length := by
        have := congrArg List.length (SV.cells_c β s)
        rw [SV.cs_eq, List.length_map] at this
        simpa using this
      rw [List.map_cons, Instr.fill, hp]
      simp only
      rw [if_neg]
      · rw [← h6 β]
        congr 1
        -- the cells laid one by one
        have key : ∀ (vs : List Value) (j : Nat) (acc : List Value), off + j + vs.length ≤ acc.length →
            (vs.zipIdx j).foldl (fun (cs : Array Value) (x : Value × Nat) => cs.setIfInBounds (off + x.2) x.1) acc.toArray = (acc.take (off + j) ++ vs ++ acc.drop (off + j + vs.length)).toArray := by
          intro vs
          induction vs with
          | nil => intro j acc _; simp
          | cons v vs ih =>
            intro j acc hle
            simp only [List.zipIdx_cons, List.foldl_cons, List.setIfInBounds_toArray]
            rw [ih (j + 1) (acc.set (off + j) v) (by simp at hle ⊢; omega)]
            congr 1
            apply List.ext_getElem?
            intro m
            simp only [List.length_cons] at hle ⊢
            simp only [List.getElem?_append, List.getElem?_take, List.length_append, List.length_take, List.length_set, List.getElem?_drop, List.getElem?_set, List.length_cons]
            rcases Nat.lt_trichotomy m (off + j) with hm | hm | hm
            · have e1 : m < min (off + (j + 1)) acc.length := by omega
              have e2 : m < min (off + j) acc.length := by omega
              have e3 : m < off + (j + 1) := by omega
              have e4 : ¬ off + j = m := by omega
              have e5 : m < min (off + (j + 1)) acc.length + vs.length := by omega
              have e6 : m < min (off + j) acc.length + (vs.length + 1) := by omega
              simp [e1, e2, e3, e4, e5, e6, hm]
            · subst hm
              have e1 : off + j < min (off + (j + 1)) acc.length := by omega
              have e2 : ¬ off + j < min (off + j) acc.length := by omega
              have e3 : off + j < off + (j + 1) := by omega
              have e5 : off + j < min (off + (j + 1)) acc.length + vs.length := by omega
              have e6 : off + j < min (off + j) acc.length + (vs.length + 1) := by omega
              have e7 : off + j - min (off + j) acc.length = 0 := by omega
              have e8 : off + j < acc.length := by omega
              simp [e1, e2, e3, e5, e6, e7, e8]
            · have e1 : ¬ m < min (off + (j + 1)) acc.length := by omega
              have e2 : ¬ m < min (off + j) acc.length := by omega
              by_cases hv : m < off + j + (vs.length + 1)
              · have e5 : m < min (off + (j + 1)) acc.length + vs.length := by omega
                have e6 : m < min (off + j) acc.length + (vs.length + 1) := by omega
                have e7 : m - min (off + j) acc.length = (m - min (off + (j + 1)) acc.length) + 1 := by omega
                simp [e1, e2, e5, e6, e7]
              · have e5 : ¬ m < min (off + (j + 1)) acc.length + vs.length := by omega
                have e6 : ¬ m < min (off + j) acc.length + (vs.length + 1) := by omega
                have e7 : off + (j + 1) + vs.length + (m - (min (off + (j + 1)) acc.length + vs.length)) = m := by omega
                have e8 : off + j + (vs.length + 1) + (m - (min (off + j) acc.length + (vs.length + 1))) = m := by omega
                have e9 : ¬ off + j = m := by omega
                simp [e5, e6, e7, e8, e9]
        have hk := key (SV.cs β s.cells) 0 (SV.cs β l) (by simp only [SV.cs_eq, List.length_map]; omega)
        have hz : (s.c β).cells = (SV.cs β s.cells).toArray := by
          rw [← SV.cells_c]
        rw [hz]
        rw [← Array.foldl_toList]
        simp only [Nat.add_zero] at hk
        rw [Array.toList_zipIdx]
        rw [hk]
        simp only [SV.cs_eq, List.map_append, List.map_take, List.map_drop, List.length_map]
      · simp only [Bool.or_eq_true, decide_eq_true_eq, not_or, ne_eq, Decidable.not_not]
        rw [hsz]
        refine ⟨by simp [h1], ?_⟩
        simp only [SV.cs_eq, List.size_toArray, List.length_map]
        omega

end
end Go.Proofs.Ytlehjapeomallaa.Sx
