/- A callee that makes several rows at once: the caller's own from here on. -/
import Derived.Test.YtaciigegbgnadaaIE
namespace Go.Proofs.Ytaciigegbgnadaa.Tx
open Go Go.RowKit
set_option linter.unusedSimpArgs false
set_option linter.unusedVariables false
theorem calls_fam3 {P : Program} (T : Env P) (hm : P.follows .mixedOrders = true) {k : Nat} {fn : Func} {c : Code} (hfn : P.funcs[k]? = some fn) (hb : fn.body = some c) {nt : Nat} (hnt : fn.ntmps = nt) (args : List Value)
    (hlen : args.length ≤ nt) {w : World} {R : Ending → World → Prop}
    (hvc : vc T c ⟨nt, slotsOf 0 (args.map .v), [], 0, Below w.heap.size w, z0⟩ (endΦ T fn fun s σ => (∀ w', σ.h w' → Below w.heap.size w w') ∧ ∀ β w', σ.h w' → Below w.heap.size w w' →
      (∀ i b, lk σ.m i = some b → b.live = true → w.heap.size ≤ β i ∧ b.ok β w' (β i)) → (∀ i j bi bj, lk σ.m i = some bi → lk σ.m j = some bj → bi.live = true → bj.live = true → i ≠ j → β i ≠ β j) → R (.returned (s.c β)) w')) :
    Calls P k args.toArray w R := by
  have h0 : Mem ⟨nt, slotsOf 0 (args.map .v), [], 0, Below w.heap.size w, z0⟩ (fun _ => 0) (fun b => b < w.heap.size) w :=
    ⟨fun i b h => (by simp [lk] at h), fun i j bi bj h => (by simp [lk] at h), fun i b h => (by simp [lk] at h), fun b h => h,
     fun w' hc => ⟨hc.os, hc.tape, hc.output, hc.size, fun b hb => hc.same b hb (fun h => h hb)⟩⟩
  have h1 := calls_vc T hm hfn hb hnt (args := args.map .v) (m0 := []) (nb0 := 0) (h := Below w.heap.size w) (by simpa using hlen) (lts_v _ _) (fun i b h => by simp [lk] at h) (fun k s h => by simp [z0, lk] at h) hvc cx0 (amb0 _ _ _) h0
  rw [cs_v] at h1
  refine h1.mono fun e w' ⟨s, σ', β', D', he, hv, _, _, hmem, _⟩ => ?_
  have hh := hmem.h w' (Chg.refl _ _)
  subst he
  exact hv.2 β' w' hh (hv.1 w' hh) (fun i b hi hl => ⟨Nat.le_of_not_lt fun hlt => hmem.out i b hi hl (hmem.old hv.1 hlt), hmem.m i b hi⟩) hmem.inj
/-- The call: said with the numbers' new places γ. -/
theorem callR {P : Program} {σ : Sg} {k : Nat} {args : List SV} {rs : List Nat} {K : Ef → Prop} {KF : Option KT} (fr rb : List Nat) (m1 : List (Nat × Blk)) (V : SV)
    (hB : efB σ ⟨V, fr, m1, [], rb⟩ = true) (hfr : ∀ i b, (i, b) ∈ m1 → i ∈ fr)
    (h : ∀ β w, (∀ i ∈ rb, ∀ b, lk σ.m i = some b → b.ok β w (β i)) → σ.h w → Calls P k (SV.cs β args).toArray w fun e w' => ∃ γ : Nat → Nat, e = .returned (V.c γ) ∧ (∀ i, i ∉ fr → γ i = β i) ∧ Below w.heap.size w w' ∧
      (∀ i b, (i, b) ∈ m1 → w.heap.size ≤ γ i ∧ b.ok γ w' (γ i)) ∧ ∀ i b j b', (i, b) ∈ m1 → (j, b') ∈ m1 → i ≠ j → γ i ≠ γ j)
    (hK : K ⟨V, fr, m1, rs, rb⟩) : CallEv P σ k args (efB σ) rs K KF :=
  .mk ⟨V, fr, m1, [], rb⟩ hB (fun β w h1 _ hst => (h β w h1 (hst w (Chg.refl _ _))).mono fun e w' ⟨γ, he, ha, hB, ho, hi⟩ =>
    ⟨γ, he, ha, ⟨hB.os, hB.tape, hB.output, hB.size, fun i hi _ => hB.block i hi⟩, fun i b hm => (ho i b hm).2, fun i _ ⟨b, hm, _⟩ => .inl (ho i b hm).1, fun i _ j _ ⟨b, hm, _⟩ ⟨b', hm', _⟩ hne => hi i b j b' hm hm' hne⟩) hK
end Go.Proofs.Ytaciigegbgnadaa.Tx
