/- The engine, part 15: loops in which more and more is known of the world. -/
import Derived.Test.YtlehjapeomallaaTn
namespace Go.Proofs.Ytlehjapeomallaa.Tx
open Go Go.RowKit
set_option linter.unusedVariables false
set_option linter.unusedSimpArgs false

/-- `loopN` where what is known of the rest of the world changes from round to round. -/
theorem loopH {V : Sg → (Exit → Sg → Prop) → Prop} {nt nb : Nat} {t0 : List (Nat × SV)} {m0 : List (Nat × Blk)} {hi : World → Prop} {z : Gz} {Φ : Exit → Sg → Prop} {α : Type} (nb' : Nat) (t : α → List (Nat × SV)) (m : α → List (Nat × Blk)) (h : α → World → Prop)
    (pre : α → Prop) (μ : α → Nat) (x0 : α) (h0 : pre x0) (ht : TSub t0 (t x0)) (hm : MSub m0 (m x0)) (hh : ∀ w, hi w → h x0 w) (hok : ∀ x, pre x → tB nt nb' (t x) = true ∧ mB nb' (m x) = true)
    (hr : ∀ x, pre x → V ⟨nt, t x, m x, nb', h x, z⟩ (seqΦ (fun σ' => ∃ x', pre x' ∧ μ x' < μ x ∧ Ent σ' ⟨nt, t x', m x', nb', h x', z⟩) Φ)) (hz : gB nb' z.g = true := by rfl) : LoopEv V ⟨nt, t0, m0, nb, hi, z⟩ Φ :=
  ⟨α, fun x => ⟨nt, t x, m x, nb', h x, z⟩, pre, μ, ⟨x0, h0, Ent.weak rfl ht hm hh⟩, fun x hx => ⟨okB (hok x hx).1 (hok x hx).2 hz, hr x hx⟩⟩

section
variable {P : Program} (T : Env P)
/-- `VC.cut` with another knowledge of the world. -/
theorem VC.cutH (hm : P.follows .mixedOrders = true) {nt nb0 : Nat} {t0 : List (Nat × SV)} {m0 : List (Nat × Blk)} {hi : World → Prop} {z : Gz} {α : Type} (n nb : Nat) (t : α → List (Nat × SV)) (m : α → List (Nat × Blk)) (h : α → World → Prop) (pre : α → Prop) {c : Code} {Φ : Exit → Sg → Prop}
    (hok : ∀ x, pre x → tB nt nb (t x) = true ∧ mB nb (m x) = true)
    (hv : vcTo T n c ⟨nt, t0, m0, nb0, hi, z⟩ (fun c' σ' => c' = rest n c ∧ ∃ x, pre x ∧ Ent σ' ⟨nt, t x, m x, nb, h x, z⟩) Φ) (hr : ∀ x, pre x → VC P (rest n c) ⟨nt, t x, m x, nb, h x, z⟩ Φ) (hz : gB nb z.g = true := by rfl) : VC P c ⟨nt, t0, m0, nb0, hi, z⟩ Φ :=
  VC.cut T hm n (fun x => ⟨nt, t x, m x, nb, h x, z⟩) pre hv fun x hx => ⟨okB (hok x hx).1 (hok x hx).2 hz, hr x hx⟩
end
end Go.Proofs.Ytlehjapeomallaa.Tx
