/- RiggingNames answers true: the examples and the errors. -/
import Derived.Test.YtaciigegbgnadaaJN
import Derived.Test.YtaciigegbgnadaaIT
namespace Go.Proofs.Ytaciigegbgnadaa
open Go Tx Go.RowKit
set_option linter.unusedSimpArgs false
set_option linter.unusedVariables false

def exL1 : List Ld := [⟨0, 40, 2, 100, 100⟩, ⟨0, 0, 0, 60, 60⟩]
def exL2 : List Ld := [⟨0, 40, 2, 0, 0⟩, ⟨0, 0, 0, 200, 200⟩]
def exB1 : List Bm := [⟨10, 21, -1, 0, -1, 1, 90, 800⟩]
def nmP : List (Int × Int) := rgP (exR none none none) exP exB exL
def nmH : List ((Int × Int) × (Int × Int)) := rgH (exR none none none) exP exB exL
set_option maxRecDepth 100000
theorem nm_p : nmP[0]? = some (23760000, 23760000) ∧ nmP.length = 2 := ⟨by kernel_rfl, by kernel_rfl⟩
theorem nm_h : (∃ a, nmH[0]? = some (a, (30240000, 138240000))) ∧ nmH.length = 1 := ⟨⟨(nmH.getD 0 ((0, 0), (0, 0))).1, by kernel_rfl⟩, by kernel_rfl⟩
theorem nm_e (p q s : Option Addr) : rgE (exR p q s) exP exB exL = 0 := by kernel_rfl
theorem nm_r0 (p q s : Option Addr) : rmV (exR p q s) exP exB exL1 0 25 0 = 520 := by kernel_rfl
theorem nm_r1 (p q s : Option Addr) : rmE (exR p q s) exP exB exL1 0 25 0 = 0 := by kernel_rfl
theorem nm_ov (p q s : Option Addr) : (ovR (exR p q s) exP exB exL1).b = 0 ∧ (ovR (exR p q s) exP exB exL1).a = 0 ∧ (ovR (exR p q s) exP exB exL1).pl (exR p q s) exL1 true = [] ∧ (ovR (exR p q s) exP exB exL1).e (rigOk 1000 1500 2000 exP exB exL1) = 7 := ⟨by kernel_rfl, by kernel_rfl, by kernel_rfl, by kernel_rfl⟩
theorem nm_r2 (p q s : Option Addr) : rmV (exR p q s) exP exB exL2 0 25 0 = 0 := by kernel_rfl
theorem nm_r3 (p q s : Option Addr) : rmE (exR p q s) exP exB exL2 0 25 0 = 9 := by kernel_rfl
theorem nm_s (p q s : Option Addr) : (slR (exR p q s) exP exB exL2).b = 0 ∧ (slR (exR p q s) exP exB exL2).a = 1 ∧ (slR (exR p q s) exP exB exL2).pl (exR p q s) exL2 false = [0, 200] ∧ (slR (exR p q s) exP exB exL2).e (rigOk 1000 1500 2000 exP exB exL2) = 0 := ⟨by kernel_rfl, by kernel_rfl, by kernel_rfl, by kernel_rfl⟩
theorem nm_b (p q s : Option Addr) : brP (exR p q s) exP exB exL [601, 60] = [] ∧ brH (exR p q s) exP exB exL [601, 60] = [] ∧ brE (exR p q s) exP exB exL [601, 60] = 2 := ⟨by kernel_rfl, by kernel_rfl, by kernel_rfl⟩
theorem nm_r4 (p q s : Option Addr) : rmV (exR p q s) exP exB exL 1 0 0 = 0 ∧ rmE (exR p q s) exP exB exL 1 0 0 = 2 := ⟨by kernel_rfl, by kernel_rfl⟩
theorem nm_ck : rigOk 1000 1500 2000 exP exB1 exL = false := by kernel_rfl
def exG0 : List (Int × Int) := List.replicate 21 (0, 0)
theorem nm_st : (staR exG exD 0).length = 1 ∧ (staR exG exD 1).length = 1 ∧ (staR exG exD 2).length = 1 ∧ (staR exG exD 3).length = 1 ∧ (staR exG exD 4).length = 1 ∧ (staR exG exD 5).length = 0 ∧ (staR exG exD 6).length = 0 ∧ (staR exG exD 7).length = 1 := ⟨by kernel_rfl, by kernel_rfl, by kernel_rfl, by kernel_rfl, by kernel_rfl, by kernel_rfl, by kernel_rfl, by kernel_rfl⟩
theorem nm_se : staE exG exD 0 = 0 ∧ staE exG exD 1 = 0 ∧ staE exG exD 2 = 0 ∧ staE exG exD 3 = 0 ∧ staE exG exD 4 = 0 ∧ staE exG exD 5 = 0 ∧ staE exG exD 6 = 0 ∧ staE exG exD 7 = 0 := ⟨by kernel_rfl, by kernel_rfl, by kernel_rfl, by kernel_rfl, by kernel_rfl, by kernel_rfl, by kernel_rfl, by kernel_rfl⟩
theorem nm_s1 : staE exG exD (-1) = 2 ∧ staR exG exD (-1) = [] := ⟨by kernel_rfl, by kernel_rfl⟩
theorem nm_s2 : staE exG0 [] 0 = 3 ∧ staR exG0 [] 0 = [] := ⟨by kernel_rfl, by kernel_rfl⟩

abbrev exI (y : Addr × Addr × Addr) (B : List Bm) (L : List Ld) (w : World) : Prop := RigIn (exR (some y.1) (some y.2.1) (some y.2.2)) exP B L w
theorem nm38_ok (y : Addr × Addr × Addr) (w : World) (h : exI y exB exL w) :
    Calls Try.prog 38 #[exV y] w fun e w' => ∃ z : (Addr × Nat) × (Addr × Nat), e = .returned (.tuple #[.slice (some z.1.1) 2 z.1.2, .slice (some z.2.1) 1 z.2.2, iv 0]) ∧ Below w.heap.size w w' ∧ St w.heap.size (fun w2 => Rd 2 gF (.slice (some z.1.1) 2 z.1.2) nmP w2 ∧ Rd 4 f4 (.slice (some z.2.1) 1 z.2.2) nmH w2) w' := by
  refine (Ranges_ok (exR (some y.1) (some y.2.1) (some y.2.2)) exP exB exL w h).mono fun e w' ⟨z, h1, h2, h3⟩ => ?_
  rw [nm_e] at h1
  have q1 : rgP (exR (some y.1) (some y.2.1) (some y.2.2)) exP exB exL = nmP := rfl
  have q2 : rgH (exR (some y.1) (some y.2.1) (some y.2.2)) exP exB exL = nmH := rfl
  rw [q1, q2] at h1 h3
  rw [nm_p.2, nm_h.2] at h1
  have s1 := h3.now.1
  have s2 := h3.now.2
  rw [nm_p.2] at s1 h3
  rw [nm_h.2] at s2 h3
  obtain ⟨⟨z1, z2⟩, z3, z4⟩ := z
  obtain ⟨_, a1, rfl, _⟩ := s1.ptr (by omega)
  obtain ⟨_, a2, rfl, _⟩ := s2.ptr (by omega)
  exact ⟨((a1, z2), (a2, z4)), h1, h2, h3⟩
theorem nm49 (y : Addr × Addr × Addr) (B : List Bm) (L : List Ld) (b a V E : Int) (w : World) (h : exI y B L w) (hL : L ≠ []) (h1 : rmV (exR (some y.1) (some y.2.1) (some y.2.2)) exP B L b a 0 = V) (h2 : rmE (exR (some y.1) (some y.2.1) (some y.2.2)) exP B L b a 0 = E) :
    Calls Try.prog 49 #[exV y, .agg #[iv b, iv a], .int .u8 0] w fun e w' => e = .returned (.tuple #[iv V, iv E]) ∧ Below w.heap.size w w' := by
  have := Room_ok (exR (some y.1) (some y.2.1) (some y.2.2)) exP B L b a 0 w h (fun hc => absurd hc hL) (by omega)
  rw [h1, h2] at this
  exact this
theorem nm41_ok (y : Addr × Addr × Addr) (w : World) (h : exI y exB exL1 w) :
    Calls Try.prog 41 #[exV y] w fun e w' => ∃ z : Option Addr × Nat, e = .returned (.tuple #[.agg #[iv 0, iv 0], sV 0 z, iv 7]) ∧ Below w.heap.size w w' ∧ St w.heap.size (Rd 1 iF (sV 0 z) []) w' := by
  refine (Over_ok (exR (some y.1) (some y.2.1) (some y.2.2)) exP exB exL1 w h).mono fun e w' ⟨z, h1, h2, h3⟩ => ?_
  obtain ⟨q1, q2, q3, q4⟩ := nm_ov (some y.1) (some y.2.1) (some y.2.2)
  have q4' : (ovR (exR (some y.1) (some y.2.1) (some y.2.2)) exP exB exL1).e (rigOk (exR (some y.1) (some y.2.1) (some y.2.2)).f0 (exR (some y.1) (some y.2.1) (some y.2.2)).f1 (exR (some y.1) (some y.2.1) (some y.2.2)).f2 exP exB exL1) = 7 := q4
  rw [q1, q2, q3, q4'] at h1
  rw [q3] at h3
  exact ⟨z, h1, h2, h3⟩
theorem nm42_ok (y : Addr × Addr × Addr) (w : World) (h : exI y exB exL2 w) :
    Calls Try.prog 42 #[exV y] w fun e w' => ∃ z : Option Addr × Nat, e = .returned (.tuple #[.agg #[iv 0, iv 1], sV 2 z, iv 0]) ∧ Below w.heap.size w w' ∧ St w.heap.size (Rd 1 iF (sV 2 z) [0, 200]) w' := by
  refine (Slack_ok (exR (some y.1) (some y.2.1) (some y.2.2)) exP exB exL2 w h).mono fun e w' ⟨z, h1, h2, h3⟩ => ?_
  obtain ⟨q1, q2, q3, q4⟩ := nm_s (some y.1) (some y.2.1) (some y.2.2)
  have q4' : (slR (exR (some y.1) (some y.2.1) (some y.2.2)) exP exB exL2).e (rigOk (exR (some y.1) (some y.2.1) (some y.2.2)).f0 (exR (some y.1) (some y.2.1) (some y.2.2)).f1 (exR (some y.1) (some y.2.1) (some y.2.2)).f2 exP exB exL2) = 0 := q4
  rw [q1, q2, q3, q4'] at h1
  rw [q3] at h3
  exact ⟨z, h1, h2, h3⟩
theorem nm29_ok (y : Addr × Addr × Addr) (b : Nat) (w : World) (h : exI y exB exL w) (hp : Rd 1 iF (.slice (some ⟨b, 0, none⟩) 2 2) [601, 60] w) :
    Calls Try.prog 29 #[exV y, .slice (some ⟨b, 0, none⟩) 2 2] w fun e w' => ∃ z : (Option Addr × Nat) × (Option Addr × Nat), e = .returned (.tuple #[sV 0 z.1, sV 0 z.2, iv 2]) ∧ Below w.heap.size w w' ∧ St w.heap.size (fun _ => True) w' := by
  refine (Bears_ok (exR (some y.1) (some y.2.1) (some y.2.2)) exP exB exL [601, 60] (some ⟨b, 0, none⟩) 2 w h hp (by decide)).mono fun e w' ⟨z, h1, h2, h3⟩ => ?_
  obtain ⟨q1, q2, q3⟩ := nm_b (some y.1) (some y.2.1) (some y.2.2)
  rw [q1, q2, q3] at h1
  exact ⟨z, h1, h2, fun _ _ => trivial⟩
theorem nm17_ok (b : Nat) (y : Addr) (d : Int) (n : Nat) (E : Int) (w : World) (hG : Rd 2 gF (.slice (some ⟨b, 0, none⟩) 1 1) exG w) (hL : Rd 4 En.cs (.slice (some y) 3 3) exD w) (h1 : (staR exG exD d).length = n) (h2 : staE exG exD d = E) :
    Calls Try.prog 17 #[.slice (some ⟨b, 0, none⟩) 1 1, .slice (some y) 3 3, iv d] w fun e w' => ∃ z : Option Addr × Nat, e = .returned (.tuple #[sV n z, iv E]) ∧ Below w.heap.size w w' ∧ St w.heap.size (fun _ => True) w' := by
  refine (Stale_ok exG exD (some ⟨b, 0, none⟩) (some y) 1 3 d w hG hL (by decide) (by decide)).mono fun e w' ⟨z, q1, q2, q3⟩ => ?_
  rw [h1, h2] at q1
  exact ⟨z, q1, q2, fun _ _ => trivial⟩
theorem nm34_ok (y : Addr × Addr × Addr) (w : World) (h : exI y exB1 exL w) : Calls Try.prog 34 #[exV y] w fun e w' => e = .returned (iv 1) ∧ Below w.heap.size w w' := by
  have := CheckRig_ok (exR (some y.1) (some y.2.1) (some y.2.2)) exP exB1 exL w h
  have q : rigOk (exR (some y.1) (some y.2.1) (some y.2.2)).f0 (exR (some y.1) (some y.2.1) (some y.2.2)).f1 (exR (some y.1) (some y.2.1) (some y.2.2)).f2 exP exB1 exL = false := nm_ck
  rw [q, if_neg (by simp)] at this
  exact this
end Go.Proofs.Ytaciigegbgnadaa
