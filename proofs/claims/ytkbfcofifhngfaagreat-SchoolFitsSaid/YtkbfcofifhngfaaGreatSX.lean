/- Regions that draw their order, with calls whose results are of families: any order comes to the same. Printed by gen_sx.py. -/
import Derived.Test.YtkbfcofifhngfaaGreatS3
namespace Go.Proofs.YtkbfcofifhngfaaGreat.Tx
open Go Go.RowKit
set_option linter.unusedSimpArgs false
set_option linter.unusedVariables false

section
variable {X : Cx} {F : Fence} {n : Nat} {P : Program} {ops : Array Oper} {Q : Exit → Act → World → Prop}
/-- Whatever order is taken from where the operations of `done` have come and those of `todo` have not. -/
def GG (X : Cx) (F : Fence) (n : Nat) (P : Program) (ops : Array Oper) (Q : Exit → Act → World → Prop) (L : List (Oper × Ef)) (σ : Sg) (done todo : List Nat) : Prop :=
  ∀ (fuel : Nat) (listed : Array Bool) (a : Act) (w : World), listed.size = L.length → listed.toList.countP (! ·) = fuel →
    (∀ j, listed.getD j false = true → ∀ o, (L.map (·.1))[j]? = some o → ∀ e ∈ o.after, Region.binds .any e = true → listed.getD e.on false = true) →
    (∀ c ∈ done, listed.getD c false = true) → (∀ c ∈ todo, listed.getD c false = false) → Sat X (foldS L listed.toList σ) a w → wpAnyIn F n P .any ops Q fuel listed a w

/-- All families have come. -/
theorem GG_end {L : List (Oper × Ef)} {σ : Sg} {done : List Nat} (hL : ops.toList = L.map (·.1)) (hd : DrawOK L σ) (hlink : ∀ i p, i ∉ done → L[i]? = some p → Link F n P ops p.1 (fin (L.take i) σ) p.2)
    (hq : ∀ a w, Sat X (fin L σ) a w → Q .normal a w) : GG X F n P ops Q L σ done [] := by
  have hget : ∀ i : Nat, ops[i]? = (L[i]?).map (fun p : Oper × Ef => p.1) := fun i => by rw [← List.getElem?_map, ← hL, Array.getElem?_toList]
  intro fuel
  induction fuel with
  | zero =>
    intro listed a w hls hc hdown hdone _ hsat
    have hall : ∀ j, j < L.length → listed.getD j false = true := fun j hj => by
      rw [List.countP_eq_zero] at hc
      have hj' : j < listed.size := by omega
      have := hc listed[j] (by simp)
      simp only [Array.getD_eq_getD_getElem?, Array.getElem?_eq_getElem hj', Option.getD_some]
      simpa using this
    have hnone : Region.ready .any ops listed = [] := by
      rw [List.eq_nil_iff_forall_not_mem]
      intro i hi
      obtain ⟨h0, o, ho, _⟩ := mem_ready.1 hi
      have hsz : ops.size = L.length := by have := congrArg List.length hL; simpa using this
      have hi2 := (Array.getElem?_eq_some_iff.1 ho).1
      have := hall i (by rw [← hsz]; exact hi2)
      rw [getD_tf (by omega), this] at h0
      cases h0
    exact ⟨hnone, hq a w (by rw [← foldS_all' hls hall]; exact hsat)⟩
  | succ fuel ih =>
    intro listed a w hls hc hdown hdone htodo hsat
    refine ⟨fun hr => hq a w (by rw [← foldS_all' hls (all_listed hL hd hls hr)]; exact hsat), fun i hi => ?_⟩
    obtain ⟨h0, o, ho, hall⟩ := mem_ready.1 hi
    have hiL : i < L.length := by
      have hsz : ops.size = L.length := by have := congrArg List.length hL; simpa using this
      rw [← hsz]; exact (Array.getElem?_eq_some_iff.1 ho).1
    obtain ⟨E, hE⟩ : ∃ E, L[i]? = some (o, E) := by
      have := hget i
      rw [ho, List.getElem?_eq_getElem hiL] at this
      simp only [Option.map_some, Option.some.injEq] at this
      exact ⟨(L[i]).2, by rw [List.getElem?_eq_getElem hiL, this]⟩
    have h0' : listed.getD i false = false := by rw [← getD_tf (by omega)]; exact h0
    have hnd : i ∉ done := fun h => by have := hdone i h; rw [h0'] at this; cases this
    unfold wpOpIn
    rw [ho]
    refine (any_norm (Q := Q) hL hd hls hdown h0' hall hE (hlink i _ hnd hE) hsat).mono fun a' w' hs' => ?_
    exact ih (listed.setIfInBounds i true) a' w' (by simpa using hls) (countP_next (by omega) h0' hc) (down_next (by simp [hE]) hdown hall) (fun c hc => getD_set_true (hdone c hc)) (fun c hc => by cases hc) hs'

theorem foldS_congr : ∀ (L L' : List (Oper × Ef)) (S : List Bool) (σ : Sg), L.length = L'.length → (∀ i : Nat, S[i]? = some true → L[i]? = L'[i]?) → foldS L S σ = foldS L' S σ
  | [], [], _, _, _, _ => rfl
  | [], q :: L', _, _, hl, _ => by simp at hl
  | p :: L, [], _, _, hl, _ => by simp at hl
  | p :: L, q :: L', [], σ, _, _ => by simp [foldS]
  | p :: L, q :: L', b :: S, σ, hl, h => by
    simp only [foldS]
    have ht := fun (i : Nat) (hi : S[i]? = some true) => h (i + 1) (by simpa using hi)
    cases b with
    | false => simpa using foldS_congr L L' S σ (by simpa using hl) (fun i hi => by simpa using ht i hi)
    | true =>
      have h0 := h 0 rfl
      simp only [List.getElem?_cons_zero, Option.some.injEq] at h0
      subst h0
      simpa using foldS_congr L L' S _ (by simpa using hl) (fun i hi => by simpa using ht i hi)
theorem app_h (σ : Sg) (d : Option Tmp) (E : Ef) (h : World → Prop) : ({σ with h := h} : Sg).app d E = {σ.app d E with h := h} := rfl
theorem foldS_h : ∀ (L : List (Oper × Ef)) (S : List Bool) (σ : Sg) (h : World → Prop), foldS L S {σ with h := h} = {foldS L S σ with h := h}
  | p :: L, b :: S, σ, h => by
    simp only [foldS]
    cases b with
    | false => simpa using foldS_h L S σ h
    | true =>
      simp only [if_true]
      rw [app_h]
      exact foldS_h L S _ h
  | [], _, σ, h => by simp [foldS]
  | _ :: _, [], σ, h => by simp [foldS]
theorem fin_h : ∀ (L : List (Oper × Ef)) (σ : Sg) (h : World → Prop), fin L {σ with h := h} = {fin L σ with h := h}
  | [], _, _ => rfl
  | p :: L, σ, h => by
    simp only [fin]
    rw [app_h]
    exact fin_h L _ h
theorem fin_nt (L : List (Oper × Ef)) (σ : Sg) : (fin L σ).nt = σ.nt := by
  induction L generalizing σ with
  | nil => rfl
  | cons p L ih => simp only [fin]; rw [ih]; rfl

/-- What a call whose result is one of a family does. -/
def FamC (F : Fence) (n : Nat) (P : Program) (ops : Array Oper) (o : Oper) (σ : Sg) (E0 : Ef) {α : Type} (V : α → Value) (hx : α → World → Prop) : Prop :=
  ∀ (Q : Exit → Act → World → Prop) (β : Nat → Nat) (a : Act) (w : World) (K : Act → World → Prop), Sees σ E0 β a w → (∀ y w', Below w.heap.size w w' → St w.heap.size (hx y) w' → K (a.put o.dst (V y)) w') → StepB F n P ops Q o K a w

/-- **A call whose result is one of a family comes in any order.** -/
theorem GG_fam {α : Type} (LF : α → List (Oper × Ef)) (V : α → Value) (hx : α → World → Prop) (y0 : α) {σ : Sg} {done : List Nat} (c : Nat) (rest : List Nat) (oc : Oper)
    (hL : ∀ y, ops.toList = (LF y).map (·.1)) (hd : ∀ y, DrawOK (LF y) σ) (hEc0 : ∀ y, ∃ rs rb, (LF y)[c]? = some (oc, ⟨.v (V y), [], [], rs, rb⟩))
    (hind : ∀ y y' i, i ≠ c → ((bef ops.toList []).getD i 0).testBit c = false → (LF y)[i]? = (LF y')[i]?)
    (hlink : ∀ i p, i ∉ done → i ≠ c → ((bef ops.toList []).getD i 0).testBit c = false → (LF y0)[i]? = some p → Link F n P ops p.1 (fin ((LF y0).take i) σ) p.2)
    (hdst : ∀ d, oc.dst = some d → d < σ.nt) (hfam0 : ∀ rs rb, (LF y0)[c]? = some (oc, ⟨.v (V y0), [], [], rs, rb⟩) → FamC F n P ops oc (fin ((LF y0).take c) σ) ⟨.v (V y0), [], [], rs, rb⟩ V hx) (hrest : ∀ d ∈ rest, d ≠ c ∧ ((bef ops.toList []).getD d 0).testBit c = true)
    (hnext : ∀ y, GG X F n P ops Q (LF y) {σ with h := fun w => σ.h w ∧ hx y w} (c :: done) rest) : GG X F n P ops Q (LF y0) σ done (c :: rest) := by
  obtain ⟨rs0, rb0, hEc⟩ := hEc0 y0
  have hfam := hfam0 rs0 rb0 hEc
  have hlen : ∀ y, (LF y).length = (LF y0).length := fun y => by
    have h1 := congrArg List.length (hL y)
    have h2 := congrArg List.length (hL y0)
    simp only [List.length_map] at h1 h2
    omega
  have hget : ∀ i : Nat, ops[i]? = ((LF y0)[i]?).map (fun p : Oper × Ef => p.1) := fun i => by rw [← List.getElem?_map, ← hL y0, Array.getElem?_toList]
  have hcl : c < (LF y0).length := (List.getElem?_eq_some_iff.1 hEc).1
  intro fuel
  induction fuel with
  | zero =>
    intro listed a w hls hc hdown hdone htodo hsat
    exfalso
    rw [List.countP_eq_zero] at hc
    have hj' : c < listed.size := by omega
    have h1 := hc listed[c] (by simp)
    have h2 := htodo c List.mem_cons_self
    simp only [Array.getD_eq_getD_getElem?, Array.getElem?_eq_getElem hj', Option.getD_some] at h2
    rw [h2] at h1
    simp at h1
  | succ fuel ih =>
    intro listed a w hls hc hdown hdone htodo hsat
    have hc0 := htodo c List.mem_cons_self
    refine ⟨fun hr => ?_, fun i hi => ?_⟩
    · have := all_listed (hL y0) (hd y0) hls hr c hcl
      rw [hc0] at this; cases this
    obtain ⟨h0, o, ho, hall⟩ := mem_ready.1 hi
    have hiL : i < (LF y0).length := by
      have hsz : ops.size = (LF y0).length := by have := congrArg List.length (hL y0); simpa using this
      rw [← hsz]; exact (Array.getElem?_eq_some_iff.1 ho).1
    have h0' : listed.getD i false = false := by rw [← getD_tf (by omega)]; exact h0
    have hnodep : ∀ j, listed.getD j false = true → j < (LF y0).length → ((bef ops.toList []).getD j 0).testBit c = false := fun j hj hjl => by
      refine Classical.byContradiction fun hbit => ?_
      have hbit : ((bef ops.toList []).getD j 0).testBit c = true := by simpa using hbit
      rw [hL y0] at hbit
      have hjo : ((LF y0).map (·.1))[j]? = some ((LF y0)[j]).1 := by simp [List.getElem?_eq_getElem hjl]
      have := (bef_listed (hd y0).edges (fun j => listed.getD j false = true) hdown j j (Nat.le_refl _) _ hjo (hdown j hj _ hjo) c hbit).1
      rw [hc0] at this; cases this
    unfold wpOpIn
    rw [ho]
    by_cases hic : i = c
    · subst hic
      obtain ⟨β, Dm, hsat'⟩ := hsat
      have hoc : o = oc := by
        have := hget i
        rw [ho, hEc] at this
        simpa using this
      subst hoc
      have hwfE : ∀ (σ' : Sg) y rs rb, Ef.Wf ⟨.v (V y), [], [], rs, rb⟩ σ' := fun σ' y rs rb => ⟨fun i b h => (by cases h), fun i b b' h => (by cases h)⟩
      obtain ⟨hsees, _⟩ := any_core (hL y0) (hd y0) hls hdown h0' hall hEc (hwfE _ _ _ _) (fun i b h => by cases h) (fun d hd' => by rw [fin_nt]; exact hdst d hd') hsat'
      refine hfam Q β a w _ hsees fun y w' hb hst => ?_
      obtain ⟨rs, rb, hEy⟩ := hEc0 y
      have hmap : (LF y).map (·.1) = (LF y0).map (·.1) := by rw [← hL y, ← hL y0]
      have hfold : foldS (LF y) listed.toList σ = foldS (LF y0) listed.toList σ := foldS_congr _ _ _ _ (hlen y) fun j hj => by
        have hj' : j < listed.size := by have := (List.getElem?_eq_some_iff.1 hj).1; simpa using this
        have hjt : listed.getD j false = true := by
          simp only [Array.getD_eq_getD_getElem?, Array.getElem?_eq_getElem hj', Option.getD_some]
          rw [Array.getElem?_toList, Array.getElem?_eq_getElem hj', Option.some.injEq] at hj
          exact hj
        refine hind y y0 j (fun e => ?_) (hnodep j hjt (by omega))
        subst e
        rw [hc0] at hjt; cases hjt
      obtain ⟨_, hav, hwf, hnt, hD, _⟩ := any_core (hL y) (hd y) (by rw [hlen]; exact hls) (by rw [hmap]; exact hdown) h0' hall hEy (hwfE _ _ _ _) (fun i b h => by cases h) (fun d hd' => by rw [fin_nt]; exact hdst d hd') (by rw [hfold]; exact hsat')
      have hset : (listed.setIfInBounds i true).toList = listed.toList.set i true := by simp
      have hoL : ((LF y0).map (·.1))[i]? = some o := by simp [hEc]
      refine hnext y fuel (listed.setIfInBounds i true) _ w' (by rw [hlen]; simpa using hls) (countP_next (by omega) h0' hc) (by rw [hmap]; exact down_next hoL hdown hall) (fun d hd' => ?_) (fun d hd' => ?_) ?_
      · rcases List.mem_cons.1 hd' with rfl | hd'
        · have hj' : d < listed.size := by omega
          simp [Array.getD_eq_getD_getElem?, hj']
        · exact getD_set_true (hdone d hd')
      · have h1 := htodo d (List.mem_cons_of_mem _ hd')
        have hne := (hrest d hd').1
        refine getD_false fun h2 => ?_
        rw [getD_set_ne false (fun e => hne e.symm)] at h2
        rw [h1] at h2; cases h2
      · rw [foldS_h, hset]
        have hext := sat_ext (hx := hx y) (by rw [← hfold] at hsat'; exact hsat') hb hst
        obtain ⟨D2, hext⟩ : ∃ D2, Sat' X {foldS (LF y) listed.toList σ with h := fun w => (foldS (LF y) listed.toList σ).h w ∧ hx y w} β D2 a w' := ⟨_, hext⟩
        have happ := hext.app (E := ⟨.v (V y), [], [], rs, rb⟩) (dst := o.dst) ⟨hav.t, hav.g, hav.m⟩ (hwfE _ _ _ _) hnt (β' := β) (w' := w') ⟨fun _ _ => rfl, Chg.refl _ _, fun i b h => (by cases h), fun i h => (by cases h), fun i h => (by cases h)⟩
        refine ⟨β, D2, Sat'.congr (σ' := {foldS (LF y) (listed.toList.set i true) σ with h := fun w => σ.h w ∧ hx y w}) (σ := ({foldS (LF y) listed.toList σ with h := fun w => (foldS (LF y) listed.toList σ).h w ∧ hx y w} : Sg).app o.dst ⟨.v (V y), [], [], rs, rb⟩) (fun k => look_inl (hD (true, k))) (fun g => look_inr (hD (false, g))) ?_ ?_ ?_ happ⟩
        · show (foldS (LF y) (listed.toList.set i true) σ).nt = (foldS (LF y) listed.toList σ).nt
          rw [(foldS_meta _ _ σ).1]; exact ((foldS_meta (LF y) listed.toList σ).1).symm
        · show (fun w => σ.h w ∧ hx y w) = fun w => (foldS (LF y) listed.toList σ).h w ∧ hx y w
          rw [(foldS_meta (LF y) listed.toList σ).2]
        · show (foldS (LF y) (listed.toList.set i true) σ).z = (foldS (LF y) listed.toList σ).z
          rw [foldS_z]; exact (foldS_z (LF y) listed.toList σ).symm
    · have hnd : i ∉ done := fun h => by have := hdone i h; rw [h0'] at this; cases this
      obtain ⟨E, hE⟩ : ∃ E, (LF y0)[i]? = some (o, E) := by
        have := hget i
        rw [ho, List.getElem?_eq_getElem hiL] at this
        simp only [Option.map_some, Option.some.injEq] at this
        exact ⟨((LF y0)[i]).2, by rw [List.getElem?_eq_getElem hiL, this]⟩
      have hoL : ((LF y0).map (·.1))[i]? = some o := by simp [hE]
      have hdep : ((bef ops.toList []).getD i 0).testBit c = false := by
        refine Classical.byContradiction fun hbit => ?_
        have hbit : ((bef ops.toList []).getD i 0).testBit c = true := by simpa using hbit
        rw [hL y0] at hbit
        have := (bef_listed (hd y0).edges (fun j => listed.getD j false = true) hdown i i (Nat.le_refl _) _ hoL hall c hbit).1
        rw [hc0] at this; cases this
      refine (any_norm (Q := Q) (hL y0) (hd y0) hls hdown h0' hall hE (hlink i _ hnd hic hdep hE) hsat).mono fun a' w' hs' => ?_
      refine ih (listed.setIfInBounds i true) a' w' (by simpa using hls) (countP_next (by omega) h0' hc) (down_next hoL hdown hall) (fun d hd' => getD_set_true (hdone d hd')) (fun d hd' => ?_) hs'
      have h1 := htodo d hd'
      have hne : d ≠ i := fun e => by
        subst e
        rcases List.mem_cons.1 hd' with h | h
        · exact hic h
        · have := (hrest d h).2
          rw [hdep] at this; cases this
      refine getD_false fun h2 => ?_
      rw [getD_set_ne false (fun e => hne e.symm)] at h2
      rw [h1] at h2; cases h2
end
section
variable {P : Program} (T : Env P)
/-- A family of results, and one of them. -/
structure Fm where
  α : Type
  V : α → Value
  hx : α → World → Prop
  y : α
/-- The event of a call whose result is one of a family: kn is what is known of the world. -/
inductive FamEv (P : Program) (σ : Sg) (kn : World → Prop) (k : Nat) (l : List SV) (f : Fm) (K : List Nat → Prop) : Prop
  | mk (rb : List Nat) (h : ∀ β w, (∀ i ∈ rb, ∀ b, lk σ.m i = some b → b.ok β w (β i)) → kn w → Calls P k (SV.cs β l).toArray w fun e w' => ∃ x, e = .returned (f.V x) ∧ Below w.heap.size w w' ∧ St w.heap.size (f.hx x) w') (hK : K rb) : FamEv P σ kn k l f K

/-- What the guard of an operation reads, if the operation is wanted. -/
def gdS (L0 : List Oper) (o : Oper) (σ : Sg) : Option (List Nat) :=
  match o.guard with
  | none => some []
  | some (j, want) => match (L0[j]?).bind (·.dst) with
    | some k => (match lk σ.t k with
      | some (.v (.bool b)) => bif b == want then some [k] else none
      | _ => none)
    | none => none
theorem gdS_spec {ops : Array Oper} {L0 : List Oper} (hL : ops.toList = L0) {o : Oper} {σ : Sg} {gs : List Nat} (h : gdS L0 o σ = some gs) : Gd ops o gs σ := by
  unfold gdS at h
  split at h
  · exact .inl (by assumption)
  · rename_i j want hg
    split at h
    case h_2 => cases h
    rename_i k hk
    split at h
    case h_2 => cases h
    rename_i b hb
    cases hc : b == want with
    | false => rw [hc] at h; cases h
    | true =>
      rw [hc, cond_true, Option.some.injEq] at h
      subst h
      have hbw : b = want := by simpa using hc
      subst hbw
      refine .inr ⟨j, b, k, hg, ?_, by simp, hb⟩
      rw [← Array.getElem?_toList, hL]; exact hk
def famG (L0 : List Oper) (o : Oper) (σ : Sg) (kn : World → Prop) (f : Fm) (K : List Nat → List Nat → Prop) : Prop :=
  match o.op, gdS L0 o σ with
  | .call ⟨.value fo, args, _⟩, some gs => (match gv σ fo with
    | some (.v (.func (.func k) first cap)) => (T.fn k = true ∧ first.toList = [] ∧ cap.toList = []) ∧ gvs σ args.toList fun l => normK l fun l' => FamEv P σ kn k l' f fun rb => K (gs ++ (os fo ++ oss args.toList)) rb
    | _ => False)
  | _, _ => False

theorem fam_op {F : Fence} {n : Nat} {ops : Array Oper} {dst : Option Tmp} {fo : Operand} {args : Array Operand} {ts : Array TypeId} {ty : TypeId} {pos : String} {after : Array Edge} {σ : Sg} {kn : World → Prop} {k : Nat} {l : List SV} {f : Fm} {v0 : Value} {rb gs : List Nat} {gd : Option (Nat × Bool)} (hF : Wd F) (hlt : ∀ k s, lk σ.t k = some s → k < σ.nt) (hg : Gd ops ⟨dst, .call ⟨.value fo, args, ts⟩, ty, pos, after, gd⟩ gs σ)
    (hf : gv σ fo = some (.v (.func (.func k) #[] #[]))) (hk : T.fn k = true) (hl : args.toList.map (gv σ) = l.map some)
    (h : ∀ β w, (∀ i ∈ rb, ∀ b, lk σ.m i = some b → b.ok β w (β i)) → kn w → Calls P k (SV.cs β l).toArray w fun e w' => ∃ x, e = .returned (f.V x) ∧ Below w.heap.size w w' ∧ St w.heap.size (f.hx x) w') :
    FamC F n P ops ⟨dst, .call ⟨.value fo, args, ts⟩, ty, pos, after, gd⟩ {σ with h := kn} ⟨.v v0, [], [], gs ++ (os fo ++ oss args.toList), rb⟩ f.V f.hx := by
  intro Q β a w K hs hK
  have hgd : GuardOn ops ⟨dst, .call ⟨.value fo, args, ts⟩, ty, pos, after, gd⟩ {σ with h := kn} ⟨.v v0, [], [], gs ++ (os fo ++ oss args.toList), rb⟩ := ⟨by
    rcases hg with h | ⟨j, want, k, h1, h2, h3, h4⟩
    · exact .inl h
    · exact .inr ⟨j, want, k, h1, h2, List.mem_append_left _ h3, h4⟩⟩
  unfold StepB
  rw [hgd.wanted hs hlt, if_pos rfl]
  refine ⟨fun f _ => hF.fn f, ?_⟩
  have hsem : Oper.semAt F.round a.eval ⟨dst, .call ⟨.value fo, args, ts⟩, ty, pos, after, gd⟩ = execOp a.eval ⟨dst, .call ⟨.value fo, args, ts⟩, ty, pos, after, gd⟩ := Oper.semAt_eq _ _ _ (fun c hc => by cases hc)
  rw [hsem]
  have e1 := gv_eval hs (show gv {σ with h := kn} fo = _ by cases fo <;> exact hf) (fun k hk => List.mem_append_right _ (List.mem_append_left _ hk))
  have hl' : args.toList.map (gv {σ with h := kn}) = l.map some := by
    rw [← hl]
    exact List.map_congr_left fun x _ => by cases x <;> rfl
  have e2 := map_toArray (gvs_eval hs hl' (fun k hk => List.mem_append_right _ (List.mem_append_right _ hk)))
  have hrun : (execOp a.eval ⟨dst, .call ⟨.value fo, args, ts⟩, ty, pos, after, gd⟩).run P w = .ok (.enter k (SV.cs β l).toArray) w := by
    simp only [execOp, resolve, e1, SV.c, e2, Deferred.ofValue, invoke, Sem.run_bind, Sem.run_pure, Result.andThen_ok, T.fok k hk]
    simp
  rw [hrun, Oper.uponIn_enter]
  refine ⟨fun hd => (by rw [hF.depth] at hd; cases hd), ?_⟩
  refine hF.calls ((h β w hs.m hs.h).mono fun e w' ⟨x, he, hb, hst⟩ => ?_)
  subst he
  exact hK x w' hb hst

/-- The operations of a region that draws its order, some of them calls whose results are of a family. -/
def vX (fs : Nat → Option Fm) (L0 : List Oper) : List Oper → Nat → Sg → List (Oper × Ef) → (World → Prop) → (Sg → List (Oper × Ef) → Prop) → Prop
  | [], _, σ, acc, _, K => drawB acc = true ∧ K σ acc
  | o :: r, j, σ, acc, kn, K => match dstB o σ.nt with
    | true => (match fs j with
      | none => vO T L0 o σ (fun E => gSplit (isG L0 j) E fun E => appK σ o.dst E fun σ' => vX fs L0 r (j + 1) σ' (acc ++ [(o, E)]) kn K) none
      | some f => famG T L0 o σ kn f fun rs rb => appK σ o.dst ⟨.v (f.V f.y), [], [], rs, rb⟩ fun σ' => vX fs L0 r (j + 1) σ' (acc ++ [(o, ⟨.v (f.V f.y), [], [], rs, rb⟩)]) (fun w => kn w ∧ f.hx f.y w) K)
    | false => False

/-- What is known of the world when the families ahead of an operation have come. -/
def knF (fs : Nat → Option Fm) : Nat → Nat → (World → Prop) → (World → Prop)
  | _, 0, kn => kn
  | j, i + 1, kn => knF fs (j + 1) i (match fs j with | none => kn | some f => fun w => kn w ∧ f.hx f.y w)

theorem vX_spec {F : Fence} {n : Nat} {ops : Array Oper} {L0 : List Oper} {fs : Nat → Option Fm} (hF : Wd F) (hL : ops.toList = L0) : ∀ (l : List Oper) (j : Nat) (σ : Sg) (acc : List (Oper × Ef)) (kn : World → Prop) (K : Sg → List (Oper × Ef) → Prop), σ.Ok → vX T fs L0 l j σ acc kn K →
    ∃ L : List (Oper × Ef), l = L.map (·.1) ∧ (∀ i p, fs (j + i) = none → L[i]? = some p → Link F n P ops p.1 (fin (L.take i) σ) p.2) ∧
      (∀ i f, fs (j + i) = some f → i < L.length → ∃ oc rs rb, L[i]? = some (oc, ⟨.v (f.V f.y), [], [], rs, rb⟩) ∧ (∀ d, oc.dst = some d → d < σ.nt) ∧ FamC F n P ops oc {fin (L.take i) σ with h := knF fs j i kn} ⟨.v (f.V f.y), [], [], rs, rb⟩ f.V f.hx) ∧
      K (fin L σ) (acc ++ L) ∧ (fin L σ).Ok ∧ drawB (acc ++ L) = true ∧ (∀ p ∈ L, ∃ m, σ.nb ≤ m ∧ p.2.fr = List.range' m p.2.fr.length)
  | [], _, σ, acc, kn, K, hσ, h => ⟨[], rfl, fun i p _ h => by simp at h, fun i f _ hi => by simp at hi, by simpa [fin] using h.2, hσ, by simpa using h.1, fun p hp => (by cases hp)⟩
  | o :: r, j, σ, acc, kn, K, hσ, h => by
    simp only [vX] at h
    split at h
    case h_2 => exact h.elim
    rename_i hd0
    have hd := dstB_spec hd0
    split at h
    · rename_i hfs
      rcases vO_spec T (n := n) hF hL hσ h with ⟨E, h1, h2, h3⟩ | ⟨kf, hkf, _⟩
      case inr => cases hkf
      obtain ⟨E', h4, h5, h6⟩ := gSplit_spec h1 h2 h3
      obtain ⟨L, g1, g2, g3, g4, g5, g6, g7⟩ := vX_spec hF hL r (j + 1) _ _ kn K (hσ.app (o := o) h5 hd) (appK_spec h4)
      refine ⟨(o, E') :: L, by simp [g1], fun i p hfi hp => ?_, fun i f hfi hi => ?_, by simpa [fin] using g4, g5, by simpa using g6, fun p hp => ?_⟩
      · cases i with
        | zero =>
          simp only [List.getElem?_cons_zero, Option.some.injEq] at hp
          subst hp
          exact h5.link hσ.wf hd h6
        | succ i => exact g2 i p (by rw [← hfi]; congr 1; omega) (by simpa using hp)
      · cases i with
        | zero => rw [Nat.add_zero, hfs] at hfi; cases hfi
        | succ i =>
          obtain ⟨oc, rs, rb, q1, q2, q3⟩ := g3 i f (by rw [← hfi]; congr 1; omega) (by simpa using hi)
          refine ⟨oc, rs, rb, by simpa using q1, q2, ?_⟩
          have : knF fs j (i + 1) kn = knF fs (j + 1) i kn := by simp only [knF, hfs]
          rw [this]
          exact q3
      · rcases List.mem_cons.1 hp with rfl | hp
        · exact ⟨σ.nb, Nat.le_refl _, h5.fr⟩
        · obtain ⟨m, q1, q2⟩ := g7 p hp
          exact ⟨m, Nat.le_trans (Nat.le_add_right _ _) q1, q2⟩
    · rename_i f hfs
      obtain ⟨dst, op, ty, pos, after, gd⟩ := o
      unfold famG at h
      split at h
      case h_2 => exact h.elim
      rename_i fo args ts gs h1 h2
      dsimp only at h1
      subst h1
      have hd := dstB_spec hd0
      split at h
      case h_2 => exact h.elim
      rename_i k first cap hf
      obtain ⟨⟨hk, hfi, hca⟩, h⟩ := h
      obtain rfl : first = #[] := Array.toList_eq_nil_iff.1 hfi
      obtain rfl : cap = #[] := Array.toList_eq_nil_iff.1 hca
      obtain ⟨l, h3, h4⟩ := gvs_spec h
      obtain ⟨rb, hc, h5⟩ := normK_spec h3
      have hE : EfOK σ ⟨.v (f.V f.y), [], [], gs ++ (os fo ++ oss args.toList), rb⟩ := ⟨rfl, rfl, fun i b h => (by cases h), fun i b h => (by cases h), fun i b b' h => (by cases h)⟩
      obtain ⟨L, g1, g2, g3, g4, g5, g6, g7⟩ := vX_spec hF hL r (j + 1) _ _ _ K (hσ.app (o := ⟨dst, .call ⟨.value fo, args, ts⟩, ty, pos, after, gd⟩) hE hd) (appK_spec h5)
      refine ⟨(⟨dst, .call ⟨.value fo, args, ts⟩, ty, pos, after, gd⟩, ⟨.v (f.V f.y), [], [], gs ++ (os fo ++ oss args.toList), rb⟩) :: L, by simp [g1], fun i p hfi hp => ?_, fun i f' hfi hi => ?_, by simpa [fin] using g4, g5, by simpa using g6, fun p hp => ?_⟩
      · cases i with
        | zero => rw [Nat.add_zero, hfs] at hfi; cases hfi
        | succ i => exact g2 i p (by rw [← hfi]; congr 1; omega) (by simpa using hp)
      · cases i with
        | zero =>
          rw [Nat.add_zero, hfs, Option.some.injEq] at hfi
          subst hfi
          exact ⟨_, _, _, rfl, hd, fam_op T hF hσ.lt (gdS_spec hL h2) hf hk h4 hc⟩
        | succ i =>
          obtain ⟨oc, rs, rb', q1, q2, q3⟩ := g3 i f' (by rw [← hfi]; congr 1; omega) (by simpa using hi)
          refine ⟨oc, rs, rb', by simpa using q1, q2, ?_⟩
          have : knF fs j (i + 1) kn = knF fs (j + 1) i (fun w => kn w ∧ f.hx f.y w) := by simp only [knF, hfs]
          rw [this]
          exact q3
      · rcases List.mem_cons.1 hp with rfl | hp
        · exact ⟨σ.nb, Nat.le_refl _, rfl⟩
        · obtain ⟨m, q1, q2⟩ := g7 p hp
          exact ⟨m, Nat.le_trans (Nat.le_add_right _ _) q1, q2⟩
end
/-- Two lists of effects are the same but at an operation and those that wait for it. -/
def indR (bs : List Nat) (c : Nat) : Nat → List (Oper × Ef) → List (Oper × Ef) → Prop
  | _, [], [] => True
  | i, p :: l, q :: r => ((Nat.beq i c || (bs.getD i 0).testBit c) = true ∨ p = q) ∧ indR bs c (i + 1) l r
  | _, _, _ => False
theorem indR_spec {bs : List Nat} {c : Nat} : ∀ {l r : List (Oper × Ef)} {j : Nat}, indR bs c j l r → ∀ i, j + i ≠ c → (bs.getD (j + i) 0).testBit c = false → l[i]? = r[i]?
  | [], [], _, _, i, _, _ => rfl
  | p :: l, q :: r, j, h, i, hne, hd => by
    cases i with
    | zero =>
      rcases h.1 with h1 | h1
      · rw [Nat.add_zero] at hne hd
        have : Nat.beq j c = false := by
          cases hb : Nat.beq j c with
          | false => rfl
          | true => exact absurd (Nat.eq_of_beq_eq_true hb) hne
        rw [this, hd] at h1
        cases h1
      · simp [h1]
    | succ i =>
      simpa using indR_spec h.2 i (by omega) (by rw [show j + 1 + i = j + (i + 1) from by omega]; exact hd)
  | [], q :: r, _, h, _, _, _ => h.elim
  | p :: l, [], _, h, _, _, _ => h.elim
theorem Link.more {F : Fence} {n : Nat} {P : Program} {ops : Array Oper} {o : Oper} {σ : Sg} {E : Ef} (h : Link F n P ops o σ E) {h' : World → Prop} (hh : ∀ w, h' w → σ.h w) : Link F n P ops o {σ with h := h'} E :=
  ⟨fun Q β a w K hs hK => h.ok Q β a w K ⟨hs.t, hs.m, hs.inj, hh _ hs.h, hs.size, fun w' hc => hh _ (hs.st w' hc)⟩ hK, ⟨h.wf.old, h.wf.once⟩, ⟨h.av.t, h.av.g, h.av.m⟩, h.rb, h.dst⟩
/-- The operations of a region that comes first. -/
def hdO : Code → Array Oper | .seq (.region _ o _) _ => o | _ => #[]
theorem beq_ne {a b : Nat} (h : a ≠ b) : Nat.beq a b = false := by
  cases hb : Nat.beq a b with
  | false => rfl
  | true => exact absurd (Nat.eq_of_beq_eq_true hb) h

def fs2 {α1 α2 : Type} (c1 c2 : Nat) (V1 : α1 → Value) (x1 : α1 → World → Prop) (V2 : α2 → Value) (x2 : α2 → World → Prop) (y1 : α1) (y2 : α2) (j : Nat) : Option Fm :=
  bif Nat.beq j c1 then some ⟨α1, V1, x1, y1⟩ else bif Nat.beq j c2 then some ⟨α2, V2, x2, y2⟩ else none
/-- **A REGION THAT DRAWS ITS ORDER, WITH TWO CALLS WHOSE RESULTS ARE OF FAMILIES.** -/
theorem VC_reg2 {P : Program} (T : Env P) (hm : P.follows .mixedOrders = true) {id : Nat} {ops : Array Oper} {σ : Sg} {Φ : Exit → Sg → Prop} {α1 α2 : Type} (c1 c2 : Nat) (V1 : α1 → Value) (x1 : α1 → World → Prop) (V2 : α2 → Value) (x2 : α2 → World → Prop) (d1 : α1) (d2 : α2)
    (LF : α1 → α2 → List (Oper × Ef)) (h12 : c1 < c2) (h3 : c2 < ops.size)
    (hv : ∀ y1 y2, vX T (fs2 c1 c2 V1 x1 V2 x2 y1 y2) ops.toList ops.toList 0 σ [] σ.h (fun σ' acc => acc = LF y1 y2 ∧ Φ .normal {σ' with h := fun w => (σ.h w ∧ x1 y1 w) ∧ x2 y2 w}))
    (hk1 : ∀ y1 y2, knF (fs2 c1 c2 V1 x1 V2 x2 y1 y2) 0 c1 σ.h = σ.h) (hk2 : ∀ y1 y2, knF (fs2 c1 c2 V1 x1 V2 x2 y1 y2) 0 c2 σ.h = fun w => σ.h w ∧ x1 y1 w)
    (hi1 : ∀ y y' y2, indR (bef ops.toList []) c1 0 (LF y y2) (LF y' y2)) (hi2 : ∀ y1 y y', indR (bef ops.toList []) c2 0 (LF y1 y) (LF y1 y'))
    (hd12 : ((bef ops.toList []).getD c2 0).testBit c1 = true) : VC P (.region id ops true) σ Φ := by
  intro F n X a w hF hlp hok hsat
  have hS := fun y1 y2 => vX_spec T (F := F) (n := n) (ops := ops) hF rfl _ 0 σ [] _ _ hok (hv y1 y2)
  have f1 : ∀ y1 y2, fs2 c1 c2 V1 x1 V2 x2 y1 y2 c1 = some ⟨α1, V1, x1, y1⟩ := fun _ _ => by unfold fs2; rw [Nat.beq_refl]; rfl
  have f2 : ∀ y1 y2, fs2 c1 c2 V1 x1 V2 x2 y1 y2 c2 = some ⟨α2, V2, x2, y2⟩ := fun _ _ => by unfold fs2; rw [beq_ne (by omega), Nat.beq_refl]; rfl
  have f0 : ∀ y1 y2 i, i ≠ c1 → i ≠ c2 → fs2 c1 c2 V1 x1 V2 x2 y1 y2 i = none := fun _ _ i e1 e2 => by unfold fs2; rw [beq_ne e1, beq_ne e2]; rfl
  have hA : ∀ y1 y2, ops.toList = (LF y1 y2).map (·.1) ∧ (∀ i p, i ≠ c1 → i ≠ c2 → (LF y1 y2)[i]? = some p → Link F n P ops p.1 (fin ((LF y1 y2).take i) σ) p.2) ∧
      (∀ i f, fs2 c1 c2 V1 x1 V2 x2 y1 y2 i = some f → i < (LF y1 y2).length → ∃ oc rs rb, (LF y1 y2)[i]? = some (oc, ⟨.v (f.V f.y), [], [], rs, rb⟩) ∧ (∀ d, oc.dst = some d → d < σ.nt) ∧ FamC F n P ops oc {fin ((LF y1 y2).take i) σ with h := knF (fs2 c1 c2 V1 x1 V2 x2 y1 y2) 0 i σ.h} ⟨.v (f.V f.y), [], [], rs, rb⟩ f.V f.hx) ∧
      Φ .normal {fin (LF y1 y2) σ with h := fun w => (σ.h w ∧ x1 y1 w) ∧ x2 y2 w} ∧ (fin (LF y1 y2) σ).Ok ∧ DrawOK (LF y1 y2) σ := fun y1 y2 => by
    obtain ⟨L, g1, g2, g3, ⟨g4, g4'⟩, g5, g6, g7⟩ := hS y1 y2
    rw [List.nil_append] at g4 g6
    subst g4
    simp only [drawB, Bool.and_eq_true] at g6
    refine ⟨g1, fun i p e1 e2 hp => g2 i p (by rw [Nat.zero_add]; exact f0 y1 y2 i e1 e2) hp, fun i f hfi hi => g3 i f (by rw [Nat.zero_add]; exact hfi) hi, g4', g5, g6.1, g6.2, fun p hp => ?_⟩
    obtain ⟨m, q1, q2⟩ := g7 p hp
    exact hok.wf.av q1 q2
  have hsz : ∀ y1 y2, (LF y1 y2).length = ops.size := fun y1 y2 => by
    have := congrArg List.length (hA y1 y2).1
    simpa using this.symm
  have hdr : ∀ y1 y2 h', DrawOK (LF y1 y2) {σ with h := h'} := fun y1 y2 h' => by
    obtain ⟨_, _, _, _, _, hd⟩ := hA y1 y2
    exact ⟨hd.edges, hd.pairs, fun p hp => ⟨(hd.av p hp).t, (hd.av p hp).g, (hd.av p hp).m⟩⟩
  have hlk : ∀ y1 y2 i p (h' : World → Prop), (∀ w, h' w → σ.h w) → i ≠ c1 → i ≠ c2 → (LF y1 y2)[i]? = some p → Link F n P ops p.1 (fin ((LF y1 y2).take i) {σ with h := h'}) p.2 := fun y1 y2 i p h' hh e1 e2 hp => by
    rw [fin_h]
    exact ((hA y1 y2).2.1 i p e1 e2 hp).more (fun w hw => by
      have : ∀ (L : List (Oper × Ef)) (τ : Sg), (fin L τ).h = τ.h := fun L => by
        induction L with
        | nil => intro τ; rfl
        | cons p L ih => intro τ; simp only [fin]; rw [ih]; rfl
      rw [this]; exact hh w hw)
  have hfm : ∀ y1 y2 i f, fs2 c1 c2 V1 x1 V2 x2 y1 y2 i = some f → i < ops.size → ∃ oc rs rb, (LF y1 y2)[i]? = some (oc, ⟨.v (f.V f.y), [], [], rs, rb⟩) ∧ (∀ d, oc.dst = some d → d < σ.nt) ∧ FamC F n P ops oc (fin ((LF y1 y2).take i) {σ with h := knF (fs2 c1 c2 V1 x1 V2 x2 y1 y2) 0 i σ.h}) ⟨.v (f.V f.y), [], [], rs, rb⟩ f.V f.hx := fun y1 y2 i f hf hi => by
    rw [fin_h]
    exact (hA y1 y2).2.2.1 i f hf (by rw [hsz]; exact hi)
  have hops : ∀ y1 y2 (i : Nat) (p : Oper × Ef), (LF y1 y2)[i]? = some p → ops[i]? = some p.1 := fun y1 y2 i p hp => by
    rw [← Array.getElem?_toList, (hA y1 y2).1, List.getElem?_map, hp]; rfl
  -- the end
  have G2 : ∀ y1 y2, GG X F n P ops (QΦ X Φ) (LF y1 y2) {σ with h := fun w => (σ.h w ∧ x1 y1 w) ∧ x2 y2 w} [c2, c1] [] := fun y1 y2 => by
    refine GG_end (hA y1 y2).1 (hdr _ _ _) (fun i p hi hp => ?_) fun a w hs => ?_
    · simp only [List.mem_cons, List.not_mem_nil, or_false, not_or] at hi
      exact hlk y1 y2 i p _ (fun w hw => hw.1.1) hi.2 hi.1 hp
    · rw [fin_h] at hs
      obtain ⟨_, _, _, q1, q2, _⟩ := hA y1 y2
      exact ⟨_, q1, ⟨⟨q2.wf.t, q2.wf.g, q2.wf.m⟩, q2.lt⟩, hs⟩
  have G1 : ∀ y1, GG X F n P ops (QΦ X Φ) (LF y1 d2) {σ with h := fun w => σ.h w ∧ x1 y1 w} [c1] [c2] := fun y1 => by
    obtain ⟨oc, rs, rb, q1, q2, q3⟩ := hfm y1 d2 c2 _ (f2 y1 d2) h3
    have hoc := hops _ _ _ _ q1
    refine GG_fam (fun y => LF y1 y) V2 x2 d2 c2 [] oc (fun y => (hA y1 y).1) (fun y => hdr _ _ _) (fun y => ?_) (fun y y' i hi hdp => ?_) (fun i p hi hic hdp hp => ?_) q2 (fun rs' rb' hE => ?_) (fun d hd => by cases hd) (fun y => G2 y1 y)
    · obtain ⟨oc', rs', rb', p1, _, _⟩ := hfm y1 y c2 _ (f2 y1 y) h3
      have := hops _ _ _ _ p1
      rw [hoc, Option.some.injEq] at this
      have he : oc = oc' := this
      subst he
      exact ⟨rs', rb', p1⟩
    · have := indR_spec (hi2 y1 y y') i (by rw [Nat.zero_add]; exact hi) (by rw [Nat.zero_add]; exact hdp)
      exact this
    · simp only [List.mem_cons, List.not_mem_nil, or_false] at hi
      exact hlk y1 d2 i p _ (fun w hw => hw.1) hi hic hp
    · rw [q1] at hE
      simp only [Option.some.injEq, Prod.mk.injEq, Ef.mk.injEq, true_and] at hE
      obtain ⟨rfl, rfl⟩ := hE
      rw [hk2] at q3
      exact q3
  have G0 : GG X F n P ops (QΦ X Φ) (LF d1 d2) σ [] [c1, c2] := by
    obtain ⟨oc, rs, rb, q1, q2, q3⟩ := hfm d1 d2 c1 _ (f1 d1 d2) (by omega)
    have hoc := hops _ _ _ _ q1
    refine GG_fam (fun y => LF y d2) V1 x1 d1 c1 [c2] oc (fun y => (hA y d2).1) (fun y => hdr _ _ σ.h) (fun y => ?_) (fun y y' i hi hdp => ?_) (fun i p hi hic hdp hp => ?_) q2 (fun rs' rb' hE => ?_) (fun d hd => ?_) (fun y => G1 y)
    · obtain ⟨oc', rs', rb', p1, _, _⟩ := hfm y d2 c1 _ (f1 y d2) (by omega)
      have := hops _ _ _ _ p1
      rw [hoc, Option.some.injEq] at this
      have he : oc = oc' := this
      subst he
      exact ⟨rs', rb', p1⟩
    · have := indR_spec (hi1 y y' d2) i (by rw [Nat.zero_add]; exact hi) (by rw [Nat.zero_add]; exact hdp)
      exact this
    · refine hlk d1 d2 i p σ.h (fun w hw => hw) hic (fun e => ?_) hp
      subst e; rw [hd12] at hdp; cases hdp
    · rw [q1] at hE
      simp only [Option.some.injEq, Prod.mk.injEq, Ef.mk.injEq, true_and] at hE
      obtain ⟨rfl, rfl⟩ := hE
      rw [hk1] at q3
      exact q3
    · simp only [List.mem_cons, List.not_mem_nil, or_false] at hd
      subst hd
      exact ⟨by omega, hd12⟩
  refine wpIn_region_any hm ?_
  have hrep : ∀ j, (Array.replicate ops.size false).getD j false = false := fun j => by
    simp only [Array.getD_eq_getD_getElem?, Array.getElem?_replicate]
    split <;> rfl
  refine G0 ops.size (Array.replicate ops.size false) a _ (by simp [hsz]) (by simp [List.countP_replicate]) (fun j hj => by rw [hrep] at hj; cases hj) (fun c hc => by cases hc) (fun c _ => hrep c) ?_
  obtain ⟨β, Dm, hs⟩ := hsat
  refine ⟨β, Dm, ?_⟩
  rw [foldS_none]
  · exact hs.drawn _
  · intro b hb
    simp only [Array.toList_replicate, List.mem_replicate] at hb
    exact hb.2

/-! ### Stores into memory of others -/
def fs1 {α1 : Type} (c1 : Nat) (V1 : α1 → Value) (x1 : α1 → World → Prop) (y1 : α1) (j : Nat) : Option Fm := bif Nat.beq j c1 then some ⟨α1, V1, x1, y1⟩ else none
/-- **A REGION THAT DRAWS ITS ORDER, WITH ONE CALL WHOSE RESULT IS OF A FAMILY.** -/
theorem VC_reg1 {P : Program} (T : Env P) (hm : P.follows .mixedOrders = true) {id : Nat} {ops : Array Oper} {σ : Sg} {Φ : Exit → Sg → Prop} {α1 : Type} (c1 : Nat) (V1 : α1 → Value) (x1 : α1 → World → Prop) (d1 : α1)
    (LF : α1 → List (Oper × Ef)) (h3 : c1 < ops.size)
    (hv : ∀ y1, vX T (fs1 c1 V1 x1 y1) ops.toList ops.toList 0 σ [] σ.h (fun σ' acc => acc = LF y1 ∧ Φ .normal {σ' with h := fun w => σ.h w ∧ x1 y1 w}))
    (hk1 : ∀ y1, knF (fs1 c1 V1 x1 y1) 0 c1 σ.h = σ.h)
    (hi1 : ∀ y y', indR (bef ops.toList []) c1 0 (LF y) (LF y')) : VC P (.region id ops true) σ Φ := by
  intro F n X a w hF hlp hok hsat
  have hS := fun y1 => vX_spec T (F := F) (n := n) (ops := ops) hF rfl _ 0 σ [] _ _ hok (hv y1)
  have f1 : ∀ y1, fs1 c1 V1 x1 y1 c1 = some ⟨α1, V1, x1, y1⟩ := fun _ => by unfold fs1; rw [Nat.beq_refl]; rfl
  have f0 : ∀ y1 i, i ≠ c1 → fs1 c1 V1 x1 y1 i = none := fun _ i e1 => by unfold fs1; rw [beq_ne e1]; rfl
  have hA : ∀ y1, ops.toList = (LF y1).map (·.1) ∧ (∀ i p, i ≠ c1 → (LF y1)[i]? = some p → Link F n P ops p.1 (fin ((LF y1).take i) σ) p.2) ∧
      (∀ i f, fs1 c1 V1 x1 y1 i = some f → i < (LF y1).length → ∃ oc rs rb, (LF y1)[i]? = some (oc, ⟨.v (f.V f.y), [], [], rs, rb⟩) ∧ (∀ d, oc.dst = some d → d < σ.nt) ∧ FamC F n P ops oc {fin ((LF y1).take i) σ with h := knF (fs1 c1 V1 x1 y1) 0 i σ.h} ⟨.v (f.V f.y), [], [], rs, rb⟩ f.V f.hx) ∧
      Φ .normal {fin (LF y1) σ with h := fun w => σ.h w ∧ x1 y1 w} ∧ (fin (LF y1) σ).Ok ∧ DrawOK (LF y1) σ := fun y1 => by
    obtain ⟨L, g1, g2, g3, ⟨g4, g4'⟩, g5, g6, g7⟩ := hS y1
    rw [List.nil_append] at g4 g6
    subst g4
    simp only [drawB, Bool.and_eq_true] at g6
    refine ⟨g1, fun i p e1 hp => g2 i p (by rw [Nat.zero_add]; exact f0 y1 i e1) hp, fun i f hfi hi => g3 i f (by rw [Nat.zero_add]; exact hfi) hi, g4', g5, g6.1, g6.2, fun p hp => ?_⟩
    obtain ⟨m, q1, q2⟩ := g7 p hp
    exact hok.wf.av q1 q2
  have hsz : ∀ y1, (LF y1).length = ops.size := fun y1 => by
    have := congrArg List.length (hA y1).1
    simpa using this.symm
  have hdr : ∀ y1 h', DrawOK (LF y1) {σ with h := h'} := fun y1 h' => by
    obtain ⟨_, _, _, _, _, hd⟩ := hA y1
    exact ⟨hd.edges, hd.pairs, fun p hp => ⟨(hd.av p hp).t, (hd.av p hp).g, (hd.av p hp).m⟩⟩
  have hlk : ∀ y1 i p (h' : World → Prop), (∀ w, h' w → σ.h w) → i ≠ c1 → (LF y1)[i]? = some p → Link F n P ops p.1 (fin ((LF y1).take i) {σ with h := h'}) p.2 := fun y1 i p h' hh e1 hp => by
    rw [fin_h]
    exact ((hA y1).2.1 i p e1 hp).more (fun w hw => by
      have : ∀ (L : List (Oper × Ef)) (τ : Sg), (fin L τ).h = τ.h := fun L => by
        induction L with
        | nil => intro τ; rfl
        | cons p L ih => intro τ; simp only [fin]; rw [ih]; rfl
      rw [this]; exact hh w hw)
  have hfm : ∀ y1 i f, fs1 c1 V1 x1 y1 i = some f → i < ops.size → ∃ oc rs rb, (LF y1)[i]? = some (oc, ⟨.v (f.V f.y), [], [], rs, rb⟩) ∧ (∀ d, oc.dst = some d → d < σ.nt) ∧ FamC F n P ops oc (fin ((LF y1).take i) {σ with h := knF (fs1 c1 V1 x1 y1) 0 i σ.h}) ⟨.v (f.V f.y), [], [], rs, rb⟩ f.V f.hx := fun y1 i f hf hi => by
    rw [fin_h]
    exact (hA y1).2.2.1 i f hf (by rw [hsz]; exact hi)
  have hops : ∀ y1 (i : Nat) (p : Oper × Ef), (LF y1)[i]? = some p → ops[i]? = some p.1 := fun y1 i p hp => by
    rw [← Array.getElem?_toList, (hA y1).1, List.getElem?_map, hp]; rfl
  have G1 : ∀ y1, GG X F n P ops (QΦ X Φ) (LF y1) {σ with h := fun w => σ.h w ∧ x1 y1 w} [c1] [] := fun y1 => by
    refine GG_end (hA y1).1 (hdr _ _) (fun i p hi hp => ?_) fun a w hs => ?_
    · simp only [List.mem_cons, List.not_mem_nil, or_false] at hi
      exact hlk y1 i p _ (fun w hw => hw.1) hi hp
    · rw [fin_h] at hs
      obtain ⟨_, _, _, q1, q2, _⟩ := hA y1
      exact ⟨_, q1, ⟨⟨q2.wf.t, q2.wf.g, q2.wf.m⟩, q2.lt⟩, hs⟩
  have G0 : GG X F n P ops (QΦ X Φ) (LF d1) σ [] [c1] := by
    obtain ⟨oc, rs, rb, q1, q2, q3⟩ := hfm d1 c1 _ (f1 d1) h3
    have hoc := hops _ _ _ q1
    refine GG_fam (fun y => LF y) V1 x1 d1 c1 [] oc (fun y => (hA y).1) (fun y => hdr _ σ.h) (fun y => ?_) (fun y y' i hi hdp => ?_) (fun i p hi hic hdp hp => ?_) q2 (fun rs' rb' hE => ?_) (fun d hd => by cases hd) (fun y => G1 y)
    · obtain ⟨oc', rs', rb', p1, _, _⟩ := hfm y c1 _ (f1 y) h3
      have := hops _ _ _ p1
      rw [hoc, Option.some.injEq] at this
      have he : oc = oc' := this
      subst he
      exact ⟨rs', rb', p1⟩
    · have := indR_spec (hi1 y y') i (by rw [Nat.zero_add]; exact hi) (by rw [Nat.zero_add]; exact hdp)
      exact this
    · exact hlk d1 i p σ.h (fun w hw => hw) hic hp
    · rw [q1] at hE
      simp only [Option.some.injEq, Prod.mk.injEq, Ef.mk.injEq, true_and] at hE
      obtain ⟨rfl, rfl⟩ := hE
      rw [hk1] at q3
      exact q3
  refine wpIn_region_any hm ?_
  have hrep : ∀ j, (Array.replicate ops.size false).getD j false = false := fun j => by
    simp only [Array.getD_eq_getD_getElem?, Array.getElem?_replicate]
    split <;> rfl
  refine G0 ops.size (Array.replicate ops.size false) a _ (by simp [hsz]) (by simp [List.countP_replicate]) (fun j hj => by rw [hrep] at hj; cases hj) (fun c hc => by cases hc) (fun c _ => hrep c) ?_
  obtain ⟨β, Dm, hs⟩ := hsat
  refine ⟨β, Dm, ?_⟩
  rw [foldS_none]
  · exact hs.drawn _
  · intro b hb
    simp only [Array.toList_replicate, List.mem_replicate] at hb
    exact hb.2

end Go.Proofs.YtkbfcofifhngfaaGreat.Tx
