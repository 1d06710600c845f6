/- The iterator over the catches is a function value that has captured the flight and the release. -/
import Derived.Test.YtlehjapeomallaaFC
namespace Go.Proofs.Ytlehjapeomallaa
open Go Sx Go.RowKit

def Fg.scs (g : Fg) (a b : Value) : List Value := [iv g.f.a.x.lo, iv g.f.a.x.hi, iv g.f.a.z.lo, iv g.f.a.z.hi, iv g.f.s.x.lo, iv g.f.s.x.hi, iv g.f.s.z.lo, iv g.f.s.z.hi, iv g.f.m, .slice g.o g.n g.c, iv g.re, iv g.so, iv g.be, iv g.le, iv g.mo, a, b]
abbrev catV (x : Nat × Nat) : Value := .func (.func 84) #[] #[.pointer (some ⟨x.1, 0, none⟩), .pointer (some ⟨x.2, 0, none⟩)]
def catHx (g : Fg) (a b : Value) (r : Int) (x : Nat × Nat) (w : World) : Prop := w.heap[x.1]? = some (.cells (g.scs a b).toArray 123 (0, 0)) ∧ w.heap[x.2]? = some (.cells #[iv r] 3 (0, 0))

theorem catches_ok (g : Fg) (x : SeeX) (n : Nat) (r : Int) (w : World) :
    Calls Try.prog 63 #[g.sv (x.bv n) (x.lv n), iv r] w fun e w' => ∃ y, e = .returned (catV y) ∧ Below w.heap.size w w' ∧ St w.heap.size (catHx g (x.bv n) (x.lv n) r y) w' := by
  refine calls_fam env mixed Try.func63 has63 Try.ntmps63 [g.sv (x.bv n) (x.lv n), iv r] (by simp) ?_
  repeat'
    conv => whnf
    first
      | refine And.intro (a := drawB _ = true) (by kernel_rfl) ?_
      | refine And.intro (a := (_ : Bool) = true) rfl ?_
      | refine And.intro (a := (_ : Bool) = true ∧ (_ : Bool) = true) ⟨rfl, rfl⟩ ?_
      | refine And.intro (a := (_ : Bool) = true ∧ (_ : List _) = []) ⟨rfl, rfl⟩ ?_
      | refine And.intro (a := IR _ _) (And.intro (by omega) (by omega)) ?_
      | refine And.intro (a := (0 : Int) ≤ _ ∧ _ < _) (And.intro (by omega) (by omega)) ?_
      | refine splT ?_
      | refine splF ?_
      | refine splNot ?_
      | (refine splIn (fun hc => ?_) (fun hc => ?_) <;> first | (exfalso; omega) | skip)
      | (refine splD (fun hc => ?_) (fun hc => ?_) <;> first | (exfalso; omega) | skip)
      | (refine splE (fun hc => ?_) (fun hc => ?_) <;> first | (exfalso; omega) | skip)
      | (refine splNE (fun hc => ?_) (fun hc => ?_) <;> first | (exfalso; omega) | skip)
  exact ⟨fun w' h => h, fun β w' hB hblk => ⟨(β 0, β 1), rfl, (hblk 0 _ rfl rfl).and (hblk 1 _ rfl rfl)⟩⟩
end Go.Proofs.Ytlehjapeomallaa
