/- A row's frame where the sizes of the arguments are looked at; how long the rows of a table may be. -/
import Derived.Test.YthfabodamhdhaaaTP
import Derived.WalkKit
import Derived.ProofKit
import Derived.OpenShut
namespace Go.Proofs.Ythfabodamhdhaaa
open Go Tx Go.RowKit Go.ChangeShapes Go.WideShapes Go.ChangeAt
set_option linter.unusedVariables false

theorem handed_sized {H : Type} {enc : TypeId × Value → H} {a : Assume} {C : Checked} {os : Os} {f : FuncId} {fn : Func} {s : ChangeSpec} {conds : List PathCond} {apart fresh handsOn again : Bool}
    (own : ownKnob C.prog.godebug = none) (started : os.Started) (noInit : C.prog.inits.idxOf? f = none) (hfn : C.prog.funcs[f]? = some fn)
    (witness : ∃ (w : World) (tape : Tape) (i : Input), w.os = os ∧ (w.forCall tape i).Shaped C.prog ∧ i.vars = [] ∧ Input.okWide C.prog (w.forCall tape i) .any w.heap.size f i ∧
      s.pre6 enc C.prog fn conds apart (w.forCall tape i).memory i.args ∧ a.holds C.prog (lone (Frame.enter C.prog f i.args .normal) [] (w.forCall tape i)))
    (contract : ∀ (W : World) (base : Nat) (args : Array Value) (ds gs : List (DataW H)) (before : List MemPlace),
      (∀ (j : Nat) t v, fn.params[j]? = some t → args[j]? = some v → Value.okWide C.prog W .any base t v) →
      DataW.Whole enc C.prog fn.params.toList s.vars apart W args.toList ds gs before →
      (DataW.weightsEach C.prog (fn.params.toList ++ s.plain.varTypes C.prog) (ds ++ gs)).all (· ≤ reachBytes) = true →
      Calls C.prog f args W fun e W' => ∃ v, e = .returned v ∧ s.post enc C.prog fn apart fresh handsOn again W args v W') :
    ReturnsInHanded a C os f .any (s.pre6 enc C.prog fn conds apart) (s.post enc C.prog fn apart fresh handsOn again) := by
  refine returnsInHanded_of_calls own started noInit witness ?_
  intro w tape i _ _ _ hok hpre _
  obtain ⟨_, _, _, fn', hfn', _, _, _, _, hval⟩ := hok
  have e : fn' = fn := Option.some.inj (hfn'.symm.trans hfn)
  subst e
  obtain ⟨⟨ds, gs, before, hw, _⟩, hz⟩ := hpre
  have hw' := DataW.Whole.of_heap (w' := w.forCall tape i) (by rfl) hw
  refine (contract (w.forCall tape i) w.heap.size i.args ds gs before hval hw' (hz.weights hw)).mono fun e W' ⟨v, he, hp⟩ => ?_
  subst he
  exact ChangeSpec.post_blind hp

theorem undS44 : Try.prog.underlying 44 = some (.slice 43) := by kernel_rfl
theorem undS43 : Try.prog.underlying 43 = some (.slice 3) := by kernel_rfl
theorem cells43 : Try.prog.cellsOf 43 = 1 := by kernel_rfl
theorem bytes3 : Try.prog.bytesOf 3 = 8 := by kernel_rfl
theorem wt_all {H : Type} {P : Program} {e : TypeId} {b : Nat} : ∀ {L : List (DataW H)}, (DataW.weightsAll P e L).all (· ≤ b) = true → ∀ d ∈ L, (d.weights P e).all (· ≤ b) = true
  | x :: L, h, d, hd => by
    rw [DataW.weightsAll, List.all_append, Bool.and_eq_true] at h
    rcases List.mem_cons.1 hd with rfl | hd
    · exact h.1
    · exact wt_all h.2 d hd
/-- How long the rows of a table are at most. -/
theorem rows_wt {H : Type} {enc : TypeId × Value → H} {W : World} {d : DataW H} {p : List MemPlace} {a : Addr} {n c : Nat} (h : DataW.Trod enc Try.prog W 0 (fun _ => true) true 44 (.slice (some a) n c) d p) (hw : (d.weights Try.prog 44).all (· ≤ reachBytes) = true) :
    ∀ i, i < n → ∀ o m k, W.cell? (a.add (i * 1)) = some (.slice o m k) → m ≤ 17592186043904 := by
  intro i hi o m k hc
  obtain ⟨fuel, hn⟩ := h
  rcases DataW.trod_slice undS44 hn with ⟨h1, _⟩ | ⟨a', len, cap, elems, rest, f', _, h1, h2, _, _, _, h3, h4, _, _⟩
  · have h1 : [Value.slice (some a) n c] = [.slice none 0 0] := h1
    simp at h1
  · have h1 : [Value.slice (some a) n c] = [.slice (some a') len cap] := h1
    simp only [List.cons.injEq, Value.slice.injEq, Option.some.injEq, and_true] at h1
    obtain ⟨rfl, rfl, rfl⟩ := h1
    have h5 := h4 i hi
    rw [cells43, List.getElem?_eq_getElem (by omega), Option.bind_eq_some_iff] at h5
    obtain ⟨es, h6, h7⟩ := h5
    obtain ⟨_, h9, h10⟩ := World.cells?_some h6
    have h11 := h10 0 (by omega)
    have h12 : (a.add (i * 1)).add 0 = a.add (i * 1) := by simp [Addr.add]
    rw [h12, hc] at h11
    obtain ⟨x, rfl⟩ : ∃ x, es = [x] := by
      match es, h9 with
      | [x], _ => exact ⟨x, rfl⟩
    simp only [List.getElem?_cons_zero, Option.some.injEq] at h11
    subst h11
    have hm : elems[i].1 ∈ elems.map (·.1) := List.mem_map.2 ⟨_, List.getElem_mem _, rfl⟩
    simp only [Prod.mk.injEq] at h2
    obtain ⟨rfl, _⟩ := h2
    rw [DataW.weights, undS44] at hw
    simp only [List.all_cons, List.all_append, Bool.and_eq_true] at hw
    have h13 := wt_all hw.2.1 _ hm
    rcases DataW.trod_slice undS43 h7 with ⟨g1, _⟩ | ⟨a2, len2, cap2, elems2, rest2, f2, _, g1, g2, _, _, _, g3, _, _, _⟩
    · simp only [List.cons.injEq, Value.slice.injEq, and_true] at g1
      omega
    · simp only [List.cons.injEq, Value.slice.injEq, and_true] at g1
      obtain ⟨_, rfl, _⟩ := g1
      rw [g2] at h13
      simp only at h13
      rw [DataW.weights, undS43] at h13
      simp only [List.all_cons, Bool.and_eq_true, decide_eq_true_eq, List.length_map, bytes3] at h13
      have := h13.1
      unfold reachBytes at this
      omega
end Go.Proofs.Ythfabodamhdhaaa
