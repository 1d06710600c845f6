/- Rigs: whether they are right: what valid returns. -/
import Derived.Test.YtaciigegbgnadaaGQ
namespace Go.Proofs.Ytaciigegbgnadaa
open Go Tx Go.RowKit
set_option linter.unusedSimpArgs false
set_option linter.unusedVariables false

/-- The lists of a rig lie where its value says. -/
structure RigIn (r : Rig) (PP : List Int) (BB : List Bm) (LL : List Ld) (w : World) : Prop where
  p : Rd 1 iF (.slice r.po PP.length r.pc) PP w
  b : Rd 8 Bm.cs (.slice r.bo BB.length r.bc) BB w
  l : Rd 5 Ld.cs (.slice r.lo LL.length r.lc) LL w
  pn : r.pn = PP.length
  bn : r.bn = BB.length
  ln : r.ln = LL.length
  pl : PP.length ≤ 1000000
  bl : BB.length ≤ 1000000
  ll : LL.length ≤ 1000000
theorem RigIn.below {r : Rig} {PP : List Int} {BB : List Bm} {LL : List Ld} {w w' : World} (h : RigIn r PP BB LL w) (hb : Below w.heap.size w w') : RigIn r PP BB LL w' :=
  ⟨h.p.below hb, h.b.below hb, h.l.below hb, h.pn, h.bn, h.ln, h.pl, h.bl, h.ll⟩
def fB (n : Int) : Bool := inB n 0 1000000
def fcB (n : Int) : Bool := inB n 1000 20000
def ldOk (pn : Nat) (bn : Int) (l : Ld) : Bool := hasB pn l.beam l.at' bn && (decide ((l.kind : Int) ≤ 2) && (inB l.lo 0 1000000 && (inB l.hi 0 1000000 && decide (l.lo ≤ l.hi))))
theorem ldOk_iff {pn : Nat} {bn : Int} {l : Ld} : ldOk pn bn l = true ↔ hasB pn l.beam l.at' bn = true ∧ (l.kind : Int) ≤ 2 ∧ (0 ≤ l.lo ∧ l.lo ≤ 1000000) ∧ (0 ≤ l.hi ∧ l.hi ≤ 1000000) ∧ l.lo ≤ l.hi := by
  unfold ldOk
  simp only [Bool.and_eq_true, inB_iff, decide_eq_true_eq]
def rigOk (f0 f1 f2 : Int) (PP : List Int) (BB : List Bm) (LL : List Ld) : Bool :=
  inB PP.length 1 12 && (PP.all (fun n => inB n 0 1000000) && (decide (BB.length ≤ 12) && (bmsOk PP.length [] BB && (decide (LL.length ≤ 20) && ([f0, f1, f2].all (fun n => inB n 1000 20000) && LL.all (ldOk PP.length BB.length))))))
theorem rigOk_iff {f0 f1 f2 : Int} {PP : List Int} {BB : List Bm} {LL : List Ld} : rigOk f0 f1 f2 PP BB LL = true ↔ (1 ≤ (PP.length : Int) ∧ (PP.length : Int) ≤ 12) ∧ PP.all (fun n => inB n 0 1000000) = true ∧ BB.length ≤ 12 ∧ bmsOk PP.length [] BB = true ∧ LL.length ≤ 20 ∧ [f0, f1, f2].all (fun n => inB n 1000 20000) = true ∧ LL.all (ldOk PP.length BB.length) = true := by
  unfold rigOk
  simp only [Bool.and_eq_true, inB_iff, decide_eq_true_eq]
theorem rd_fac {w : World} {b : Nat} {x y z : Value} {f0 f1 f2 : Int} {ty : TypeId} (h : w.heap[b]? = some (.cells #[x, y, iv f0, iv f1, iv f2, z] ty (0, 0))) : Rd 1 iF (.slice (some ⟨b, 2, none⟩) 3 3) [f0, f1, f2] w := by
  refine .inr ⟨_, _, rfl, fun k g hk j v hv => ?_⟩
  have hk3 : k < 3 := (List.getElem?_eq_some_iff.1 hk).1
  have hj : j = 0 := by have := (List.getElem?_eq_some_iff.1 hv).1; simp at this; omega
  subst hj
  simp only [List.getElem?_cons_zero, Option.some.injEq] at hv
  subst hv
  rw [own_add, own_add, cell_of_row w b _ _ ty (0, 0) h]
  obtain rfl | rfl | rfl : k = 0 ∨ k = 1 ∨ k = 2 := by omega
  all_goals (simp at hk; subst hk; rfl)

set_option maxHeartbeats 4000000 in
set_option maxRecDepth 100000 in
theorem valid_ok (r : Rig) (PP : List Int) (BB : List Bm) (LL : List Ld) (w : World) (h : RigIn r PP BB LL w) :
    Calls Try.prog 67 #[r.v] w fun e w' => e = .returned (.bool (rigOk r.f0 r.f1 r.f2 PP BB LL)) ∧ Below w.heap.size w w' := by
  obtain ⟨po, pn, pc, bo, bn, bc, f0, f1, f2, lo, ln, lc⟩ := r
  obtain ⟨hP, hB, hL, rfl, rfl, rfl, l1, l2, l3⟩ := h
  dsimp only at hP hB hL l1 l2 l3 ⊢
  refine calls_val env mixed Try.func67 has67 Try.ntmps67 [.agg #[.slice po PP.length pc, .slice bo BB.length bc, iv f0, iv f1, iv f2, .slice lo LL.length lc]] (by simp) ?_
  have hv1 := fun w' (hb : Below w.heap.size w w') => all86_ok PP po pc w' (hP.below hb) l1
  have hv2 := fun w' (hb : Below w.heap.size w w') (h12 : BB.length ≤ 12) => beams_ok ⟨po, PP.length, pc, bo, BB.length, bc, f0, f1, f2, lo, LL.length, lc⟩ BB w' (hB.below hb) rfl h12 l1
  have hv3 := fun (b : Nat) (ty : TypeId) (x y z : Value) (w' : World) (h : w'.heap[b]? = some (.cells #[x, y, iv f0, iv f1, iv f2, z] ty (0, 0))) => all89_ok [f0, f1, f2] _ 3 w' (rd_fac h) (by simp)
  have hF : rigOk f0 f1 f2 PP BB LL = false → false = rigOk f0 f1 f2 PP BB LL := fun h => h.symm
  cases q1 : PP.all (fun n => inB n 0 1000000) <;> cases q2 : bmsOk PP.length [] BB <;> cases q3 : [f0, f1, f2].all (fun n => inB n 1000 20000)
  all_goals rw [q1] at hv1
  all_goals rw [q3] at hv3
  all_goals dsimp only at hv2
  all_goals rw [q2] at hv2
  all_goals skip
  repeat'
    conv => whnf
    first
      | refine And.intro (a := drawB _ = true) (by kernel_rfl) ?_
      | refine And.intro (a := (_ : Bool) = true) rfl ?_
      | refine And.intro (a := (_ : Bool) = true ∧ (_ : Bool) = true) ⟨rfl, rfl⟩ ?_
      | refine And.intro (a := (_ : Bool) = true ∧ (_ : List _) = []) ⟨rfl, rfl⟩ ?_
      | refine And.intro (a := IR _ _) (And.intro (by omega) (by omega)) ?_
      | refine wrapE (And.intro (by omega) (by omega)) ?_
      | refine And.intro (a := (0 : Int) ≤ _ ∧ _ < _) (And.intro (by omega) (by omega)) ?_
      | refine And.intro (a := (_ : Bool) = true) (by simp only [Nat.beq_refl]; rfl) ?_
      | refine And.intro (a := ((_ : Bool) = true → 1 ≤ _) ∧ _ ≤ 9223372036854775807 ∧ _ ≤ 140737488355328) ⟨fun h => (by first | omega | cases h), by omega, by omega⟩ ?_
      | refine splT ?_
      | refine splF ?_
      | refine splNot ?_
      | (refine splIn (fun hc => ?_) (fun hc => ?_) <;> first | (exfalso; omega) | (exfalso; dsimp only at hc; omega) | skip)
      | (refine splD (fun hc => ?_) (fun hc => ?_) <;> first | (exfalso; omega) | (exfalso; dsimp only at hc; omega) | skip)
      | (refine splE (fun hc => ?_) (fun hc => ?_) <;> first | (exfalso; omega) | (exfalso; dsimp only at hc; omega) | skip)
      | (refine splNE (fun hc => ?_) (fun hc => ?_) <;> first | (exfalso; omega) | (exfalso; dsimp only at hc; omega) | skip)
      | ((with_reducible show CallEv _ _ 56 _ _ _ _ _); refine callE (k := 56) (fun β w' hbw => within_ok _ _ _ _) ?_)
      | ((with_reducible show CallEv _ _ 85 [_, .v (.func (.func 86) _ _)] _ _ _ _); refine callE (k := 85) (fun β w' hbw => hv1 w' hbw) ?_)
      | ((with_reducible show CallEv _ _ 85 [_, .v (.func (.func 89) _ _)] _ _ _ _); refine callM (k := 85) [0] (fun β w' hbk hbw => hv3 _ _ _ _ _ w' (hbk 0 (by simp) _ rfl)) ?_)
      | ((with_reducible show CallEv _ _ 87 _ _ _ _ _); refine callE (k := 87) (fun β w' hbw => hv2 _ hbw (by omega)) ?_)
      | ((with_reducible show CallEv _ _ 90 _ _ _ _ _); refine callI env mixed 1000 [36] Try.func90 has90 Try.ntmps90 (Nat.le_of_ble_eq_true rfl) rfl rfl rfl ?_)
      | ((with_reducible show CallEv _ _ 106 _ _ _ _ _); refine callI env mixed 2000 [] Try.func106 has106 Try.ntmps106 (Nat.le_of_ble_eq_true rfl) rfl rfl rfl ?_)
      | ((with_reducible show CallEv _ _ 111 _ _ _ _ _); refine callI env mixed 3000 [] Try.func111 has111 Try.ntmps111 (Nat.le_of_ble_eq_true rfl) rfl rfl rfl ?_)
  all_goals first | exact ⟨fun β => congrArg Value.bool (hF (by rw [Bool.eq_false_iff]; intro hc; rw [rigOk_iff] at hc; first | omega | simp_all)), fun w' h => h⟩ | skip
  conv => whnf
  refine loopE (fun k : Nat => [(0, .v (.slice lo LL.length lc)), (1, .fn (.func 107) [.ptr 1 0]), (7, .v (iv LL.length)), (8, .v (iv k))])
    (fun k => [(0, .cells [.v (.slice po PP.length pc), .v (.slice bo BB.length bc), .v (iv f0), .v (iv f1), .v (iv f2), .v (.slice lo LL.length lc)] 58), (1, .cells [.fn (.func 88) [.ptr 0 0]] 156)])
    (fun k => k ≤ LL.length ∧ (LL.take k).all (ldOk PP.length BB.length) = true) (fun k => LL.length - k) 0 ⟨Nat.zero_le _, rfl⟩ ⟨rfl, rfl, rfl, rfl, trivial⟩ ⟨rfl, rfl, trivial⟩ (fun _ => ⟨rfl, rfl⟩) ?_
  intro k ⟨hk, hall⟩
  rcases Nat.lt_or_ge k LL.length with hkl | hkl
  · obtain ⟨l, hb⟩ : ∃ b, LL[k]? = some b := ⟨_, List.getElem?_eq_getElem hkl⟩
    obtain ⟨_, ad, rfl, _⟩ := hL.ptr (by omega)
    have ht : (LL.take (k + 1)).all (ldOk PP.length BB.length) = ldOk PP.length BB.length l := by rw [List.take_add_one, hb]; simp [hall]
    have e0 := fun (w' : World) hw' => rd_ati (hL.below (w' := w') hw') hb
    have hno : ldOk PP.length BB.length l = false → rigOk f0 f1 f2 PP BB LL = false := fun h => by
      rw [Bool.eq_false_iff]; intro hc; rw [rigOk_iff, List.all_eq_true (l := LL)] at hc
      rw [hc.2.2.2.2.2.2 l (List.mem_of_getElem? hb)] at h; cases h
    obtain ⟨l1, l2, l3, l4, l5⟩ := l
    repeat'
      conv => whnf
      first
        | refine And.intro (a := drawB _ = true) (by kernel_rfl) ?_
        | refine And.intro (a := (_ : Bool) = true) rfl ?_
        | refine And.intro (a := (_ : Bool) = true ∧ (_ : Bool) = true) ⟨rfl, rfl⟩ ?_
        | refine And.intro (a := (_ : Bool) = true ∧ (_ : List _) = []) ⟨rfl, rfl⟩ ?_
        | refine And.intro (a := IR _ _) (And.intro (by omega) (by omega)) ?_
        | refine wrapE (And.intro (by omega) (by omega)) ?_
        | refine And.intro (a := (0 : Int) ≤ _ ∧ _ < _) (And.intro (by omega) (by omega)) ?_
        | refine And.intro (a := (_ : Bool) = true) (by simp only [Nat.beq_refl]; rfl) ?_
        | refine And.intro (a := ((_ : Bool) = true → 1 ≤ _) ∧ _ ≤ 9223372036854775807 ∧ _ ≤ 140737488355328) ⟨fun h => (by first | omega | cases h), by omega, by omega⟩ ?_
        | refine splT ?_
        | refine splF ?_
        | refine splNot ?_
        | (refine splIn (fun hc => ?_) (fun hc => ?_) <;> first | (exfalso; omega) | (exfalso; dsimp only at hc; omega) | skip)
        | (refine splD (fun hc => ?_) (fun hc => ?_) <;> first | (exfalso; omega) | (exfalso; dsimp only at hc; omega) | skip)
        | (refine splE (fun hc => ?_) (fun hc => ?_) <;> first | (exfalso; omega) | (exfalso; dsimp only at hc; omega) | skip)
        | (refine splNE (fun hc => ?_) (fun hc => ?_) <;> first | (exfalso; omega) | (exfalso; dsimp only at hc; omega) | skip)
        | refine Exists.intro (α := List Value) [iv l1, iv l2, .int .u8 l3, iv l4, iv l5] ⟨⟨rfl, fun w' hw' => e0 w' hw'⟩, ?_⟩
        | ((with_reducible show CallEv _ _ 107 _ _ _ _ _); refine callI env mixed 4000 [0,1,5,7,8] Try.func107 has107 Try.ntmps107 (Nat.le_of_ble_eq_true rfl) rfl rfl rfl ?_)
        | ((with_reducible show CallEv _ _ 88 _ _ _ _ _); refine callI env mixed 5000 [] Try.func88 has88 Try.ntmps88 (Nat.le_of_ble_eq_true rfl) rfl rfl rfl ?_)
        | ((with_reducible show CallEv _ _ 78 _ _ _ _ _); refine callE (k := 78) (fun β w' hbw => has78_ok ⟨po, PP.length, pc, bo, BB.length, bc, f0, f1, f2, some ad, LL.length, lc⟩ _ _ _ _ (by omega) (by omega)) ?_)
        | ((with_reducible show CallEv _ _ 86 _ _ _ _ _); refine callE (k := 86) (fun β w' hbw => force_ok _ _) ?_)
        | refine splB (fun hb => ?_) (fun hb => ?_)
    all_goals first
      | exact ⟨k + 1, ⟨by omega, by rw [ht, ldOk_iff]; refine ⟨by assumption, ?_⟩; dsimp only; omega⟩, by omega, Ent.weak rfl ⟨rfl, rfl, rfl, rfl, trivial⟩ ⟨rfl, rfl, trivial⟩ fun _ h => h⟩
      | exact ⟨fun β => congrArg Value.bool (hno (by rw [Bool.eq_false_iff]; intro hc; rw [ldOk_iff] at hc; dsimp only at hc; first | omega | simp_all)).symm, fun w' h => h⟩
      | skip
    all_goals (trace_state; sorry)
  · rw [List.take_of_length_le hkl] at hall
    have hy : rigOk f0 f1 f2 PP BB LL = true := by
      rw [rigOk_iff]; exact ⟨by omega, q1, by omega, q2, by omega, q3, hall⟩
    rw [hy]
    repeat'
      conv => whnf
      first
        | refine And.intro (a := drawB _ = true) (by kernel_rfl) ?_
        | refine And.intro (a := (_ : Bool) = true) rfl ?_
        | refine And.intro (a := (_ : Bool) = true ∧ (_ : Bool) = true) ⟨rfl, rfl⟩ ?_
        | refine And.intro (a := (_ : Bool) = true ∧ (_ : List _) = []) ⟨rfl, rfl⟩ ?_
        | refine And.intro (a := IR _ _) (And.intro (by omega) (by omega)) ?_
        | refine wrapE (And.intro (by omega) (by omega)) ?_
        | refine And.intro (a := (0 : Int) ≤ _ ∧ _ < _) (And.intro (by omega) (by omega)) ?_
        | refine And.intro (a := (_ : Bool) = true) (by simp only [Nat.beq_refl]; rfl) ?_
        | refine And.intro (a := ((_ : Bool) = true → 1 ≤ _) ∧ _ ≤ 9223372036854775807 ∧ _ ≤ 140737488355328) ⟨fun h => (by first | omega | cases h), by omega, by omega⟩ ?_
        | refine splT ?_
        | refine splF ?_
        | refine splNot ?_
        | (refine splIn (fun hc => ?_) (fun hc => ?_) <;> first | (exfalso; omega) | (exfalso; dsimp only at hc; omega) | skip)
        | (refine splD (fun hc => ?_) (fun hc => ?_) <;> first | (exfalso; omega) | (exfalso; dsimp only at hc; omega) | skip)
        | (refine splE (fun hc => ?_) (fun hc => ?_) <;> first | (exfalso; omega) | (exfalso; dsimp only at hc; omega) | skip)
        | (refine splNE (fun hc => ?_) (fun hc => ?_) <;> first | (exfalso; omega) | (exfalso; dsimp only at hc; omega) | skip)
    all_goals first | exact ⟨fun β => rfl, fun w' h => h⟩ | (exfalso; omega) | skip
end Go.Proofs.Ytaciigegbgnadaa
