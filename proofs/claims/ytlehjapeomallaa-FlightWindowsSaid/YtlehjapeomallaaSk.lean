/- The engine, part 11: loops with two or three changing things, and own blocks named anew. -/
import Derived.Test.YtlehjapeomallaaSj
namespace Go.Proofs.Ytlehjapeomallaa.Sx
open Go

/-- `loopE` with two numbers (or other things) that change. -/
theorem loopE2 {V : Sg → (Exit → Sg → Prop) → Prop} {nt nb : Nat} {t0 : List (Nat × SV)} {m0 : List (Nat × Blk)} {h : World → Prop} {Φ : Exit → Sg → Prop} {α β : Type} (t : α → β → List (Nat × SV)) (m : α → β → List (Nat × Blk))
    (pre : α → β → Prop) (μ : α → β → Nat) (a0 : α) (b0 : β) (h0 : pre a0 b0) (ht : TSub t0 (t a0 b0)) (hm : MSub m0 (m a0 b0)) (hok : ∀ a b, tB nt nb (t a b) = true ∧ mB nb (m a b) = true)
    (hr : ∀ a b, pre a b → V ⟨nt, t a b, m a b, nb, h⟩ (seqΦ (fun σ' => ∃ a' b', pre a' b' ∧ μ a' b' < μ a b ∧ Ent σ' ⟨nt, t a' b', m a' b', nb, h⟩) Φ)) : LoopEv V ⟨nt, t0, m0, nb, h⟩ Φ :=
  loopE (fun x : α × β => t x.1 x.2) (fun x => m x.1 x.2) (fun x => pre x.1 x.2) (fun x => μ x.1 x.2) (a0, b0) h0 ht hm (fun x => hok x.1 x.2) fun x hx => by
    have := hr x.1 x.2 hx
    rwa [show (fun σ' => ∃ a' b', pre a' b' ∧ μ a' b' < μ x.1 x.2 ∧ Ent σ' ⟨nt, t a' b', m a' b', nb, h⟩) = (fun σ' => ∃ x' : α × β, pre x'.1 x'.2 ∧ μ x'.1 x'.2 < μ x.1 x.2 ∧ Ent σ' ⟨nt, t x'.1 x'.2, m x'.1 x'.2, nb, h⟩) from
      funext fun σ' => propext ⟨fun ⟨a, b, h⟩ => ⟨(a, b), h⟩, fun ⟨y, h⟩ => ⟨y.1, y.2, h⟩⟩] at this

theorem loopE3 {V : Sg → (Exit → Sg → Prop) → Prop} {nt nb : Nat} {t0 : List (Nat × SV)} {m0 : List (Nat × Blk)} {h : World → Prop} {Φ : Exit → Sg → Prop} {α β γ : Type} (t : α → β → γ → List (Nat × SV)) (m : α → β → γ → List (Nat × Blk))
    (pre : α → β → γ → Prop) (μ : α → β → γ → Nat) (a0 : α) (b0 : β) (c0 : γ) (h0 : pre a0 b0 c0) (ht : TSub t0 (t a0 b0 c0)) (hm : MSub m0 (m a0 b0 c0)) (hok : ∀ a b c, tB nt nb (t a b c) = true ∧ mB nb (m a b c) = true)
    (hr : ∀ a b c, pre a b c → V ⟨nt, t a b c, m a b c, nb, h⟩ (seqΦ (fun σ' => ∃ a' b' c', pre a' b' c' ∧ μ a' b' c' < μ a b c ∧ Ent σ' ⟨nt, t a' b' c', m a' b' c', nb, h⟩) Φ)) : LoopEv V ⟨nt, t0, m0, nb, h⟩ Φ :=
  loopE2 (fun (x : α × β) c => t x.1 x.2 c) (fun x c => m x.1 x.2 c) (fun x c => pre x.1 x.2 c) (fun x c => μ x.1 x.2 c) (a0, b0) c0 h0 ht hm (fun x c => hok x.1 x.2 c) fun x c hx => by
    have := hr x.1 x.2 c hx
    rwa [show (fun σ' => ∃ a' b' c', pre a' b' c' ∧ μ a' b' c' < μ x.1 x.2 c ∧ Ent σ' ⟨nt, t a' b' c', m a' b' c', nb, h⟩) = (fun σ' => ∃ (x' : α × β) (c' : γ), pre x'.1 x'.2 c' ∧ μ x'.1 x'.2 c' < μ x.1 x.2 c ∧ Ent σ' ⟨nt, t x'.1 x'.2 c', m x'.1 x'.2 c', nb, h⟩) from
      funext fun σ' => propext ⟨fun ⟨a, b, c, h⟩ => ⟨(a, b), c, h⟩, fun ⟨y, c, h⟩ => ⟨y.1, y.2, c, h⟩⟩] at this

/-! ### Own blocks named anew -/
mutual
def SV.ren (ρ : Nat → Nat) : SV → SV
  | .v x => .v x
  | .ptr i o => .ptr (ρ i) o
  | .sl i o n k => .sl (ρ i) o n k
  | .os i j n => .os (ρ i) (ρ j) n
  | .agg l => .agg (SV.rens ρ l)
  | .fn f l => .fn f (SV.rens ρ l)
  | .tup l => .tup (SV.rens ρ l)
def SV.rens (ρ : Nat → Nat) : List SV → List SV
  | [] => []
  | x :: r => SV.ren ρ x :: SV.rens ρ r
end
mutual
theorem SV.ren_c (ρ β : Nat → Nat) : ∀ s : SV, (s.ren ρ).c β = s.c (fun i => β (ρ i))
  | .v _ => rfl
  | .ptr _ _ => rfl
  | .sl _ _ _ _ => rfl
  | .os _ _ _ => rfl
  | .agg l => by simp only [SV.ren, SV.c, SV.rens_cs ρ β l]
  | .fn _ l => by simp only [SV.ren, SV.c, SV.rens_cs ρ β l]
  | .tup l => by simp only [SV.ren, SV.c, SV.rens_cs ρ β l]
theorem SV.rens_cs (ρ β : Nat → Nat) : ∀ l : List SV, SV.cs β (SV.rens ρ l) = SV.cs (fun i => β (ρ i)) l
  | [] => rfl
  | x :: r => by simp only [SV.rens, SV.cs, SV.ren_c ρ β x, SV.rens_cs ρ β r]
end
def Blk.ren (ρ : Nat → Nat) : Blk → Blk
  | .gone => .gone
  | .cells l ty => .cells (SV.rens ρ l) ty
  | .row xs ty => .row xs ty
  | .own j n sz xs ty => .own (ρ j) n sz xs ty
theorem Blk.ren_ok (ρ β : Nat → Nat) (w : World) (i : Nat) (b : Blk) (h : (b.ren ρ).ok β w i) : b.ok (fun i => β (ρ i)) w i := by
  cases b with
  | cells l ty => simp only [Blk.ren, Blk.ok, SV.rens_cs] at *; exact h
  | _ => exact h
theorem Blk.ren_live (ρ : Nat → Nat) (b : Blk) : (b.ren ρ).live = b.live := by cases b <;> rfl

def TRen (ρ : Nat → Nat) (t : List (Nat × SV)) : List (Nat × SV) → Prop
  | [] => True
  | (k, s) :: r => lk t k = some (s.ren ρ) ∧ TRen ρ t r
def MRen (ρ : Nat → Nat) (m : List (Nat × Blk)) : List (Nat × Blk) → Prop
  | [] => True
  | (k, b) :: r => lk m (ρ k) = some (b.ren ρ) ∧ MRen ρ m r
theorem TRen.get {ρ : Nat → Nat} {t : List (Nat × SV)} : ∀ {l : List (Nat × SV)}, TRen ρ t l → ∀ k s, lk l k = some s → lk t k = some (s.ren ρ)
  | [], _, _, _, h => by simp [lk] at h
  | (j, x) :: r, ha, k, s, h => by
    simp only [lk] at h
    cases hb : Nat.beq k j with
    | true =>
      obtain rfl := Nat.eq_of_beq_eq_true hb
      rw [hb, cond_true, Option.some.injEq] at h
      subst h; exact ha.1
    | false =>
      rw [hb, cond_false] at h
      exact ha.2.get k s h
theorem MRen.get {ρ : Nat → Nat} {t : List (Nat × Blk)} : ∀ {l : List (Nat × Blk)}, MRen ρ t l → ∀ k s, lk l k = some s → lk t (ρ k) = some (s.ren ρ)
  | [], _, _, _, h => by simp [lk] at h
  | (j, x) :: r, ha, k, s, h => by
    simp only [lk] at h
    cases hb : Nat.beq k j with
    | true =>
      obtain rfl := Nat.eq_of_beq_eq_true hb
      rw [hb, cond_true, Option.some.injEq] at h
      subst h; exact ha.1
    | false =>
      rw [hb, cond_false] at h
      exact ha.2.get k s h
/-- The names of a list go to names that differ. -/
def injR (ρ : Nat → Nat) : List (Nat × Blk) → Bool
  | [] => true
  | (k, _) :: r => (keysB r).all (fun j => Nat.beq j k || !(Nat.beq (ρ j) (ρ k))) && injR ρ r
theorem lk_key {α : Type} {l : List (Nat × α)} {i : Nat} {x : α} (h : lk l i = some x) : i ∈ l.map (·.1) := List.mem_map.2 ⟨_, lk_mem h, rfl⟩
theorem keysB_eq : ∀ l : List (Nat × Blk), keysB l = l.map (·.1)
  | [] => rfl
  | (i, b) :: r => by simp [keysB, keysB_eq r]
theorem injR_spec {ρ : Nat → Nat} : ∀ {l : List (Nat × Blk)}, injR ρ l = true → ∀ i j, i ∈ l.map (·.1) → j ∈ l.map (·.1) → i ≠ j → ρ i ≠ ρ j
  | [], _, _, _, h, _, _ => by simp at h
  | (k, b) :: r, h, i, j, hi, hj, hne => by
    simp only [injR, Bool.and_eq_true, List.all_eq_true, Bool.or_eq_true, Bool.not_eq_true', keysB_eq] at h
    have key : ∀ m, m ∈ r.map (·.1) → m ≠ k → ρ m ≠ ρ k := fun m hm hmk he => by
      rcases h.1 m hm with h' | h'
      · exact hmk (Nat.eq_of_beq_eq_true h')
      · rw [he] at h'; simp at h'
    simp only [List.map_cons, List.mem_cons] at hi hj
    rcases hi with rfl | hi <;> rcases hj with rfl | hj
    · exact absurd rfl hne
    · exact fun e => key j hj (Ne.symm hne) e.symm
    · exact key i hi hne
    · exact injR_spec h.2 i j hi hj hne

theorem Ent.ren {σ σ' : Sg} (ρ : Nat → Nat) (hn : σ'.nt = σ.nt) (hi : injR ρ σ'.m = true) (ht : TRen ρ σ.t σ'.t) (hm : MRen ρ σ.m σ'.m) (hh : ∀ w, σ.h w → σ'.h w) : Ent σ σ' := by
  rintro a w ⟨β, D, h⟩
  refine ⟨fun i => β (ρ i), D, h.defers, by rw [hn]; exact h.size, fun k s hk => ?_, fun i b hib => ?_, fun i j bi bj h1 h2 l1 l2 hne => ?_, fun i b hib hl => ?_, h.dlt, fun w' hc => hh w' (h.h w' hc)⟩
  · rw [h.t k _ (ht.get k s hk), SV.ren_c]
  · exact Blk.ren_ok ρ β w _ b (h.m _ _ (hm.get i b hib))
  · exact h.inj _ _ _ _ (hm.get i bi h1) (hm.get j bj h2) (by rw [Blk.ren_live]; exact l1) (by rw [Blk.ren_live]; exact l2) (injR_spec hi i j (lk_key h1) (lk_key h2) hne)
  · exact h.out _ _ (hm.get i b hib) (by rw [Blk.ren_live]; exact hl)

/-- By a list of names. -/
def rho (l : List (Nat × Nat)) (i : Nat) : Nat := match lk l i with | some j => j | none => i

/-- `loopE` with as many names as one likes at its head. -/
theorem loopN {V : Sg → (Exit → Sg → Prop) → Prop} {nt nb : Nat} {t0 : List (Nat × SV)} {m0 : List (Nat × Blk)} {h : World → Prop} {Φ : Exit → Sg → Prop} {α : Type} (nb' : Nat) (t : α → List (Nat × SV)) (m : α → List (Nat × Blk))
    (pre : α → Prop) (μ : α → Nat) (x0 : α) (h0 : pre x0) (ht : TSub t0 (t x0)) (hm : MSub m0 (m x0)) (hok : ∀ x, pre x → tB nt nb' (t x) = true ∧ mB nb' (m x) = true)
    (hr : ∀ x, pre x → V ⟨nt, t x, m x, nb', h⟩ (seqΦ (fun σ' => ∃ x', pre x' ∧ μ x' < μ x ∧ Ent σ' ⟨nt, t x', m x', nb', h⟩) Φ)) : LoopEv V ⟨nt, t0, m0, nb, h⟩ Φ :=
  ⟨α, fun x => ⟨nt, t x, m x, nb', h⟩, pre, μ, ⟨x0, h0, Ent.weak rfl ht hm fun _ h => h⟩, fun x hx => ⟨okB (hok x hx).1 (hok x hx).2, hr x hx⟩⟩
end Go.Proofs.Ytlehjapeomallaa.Sx
