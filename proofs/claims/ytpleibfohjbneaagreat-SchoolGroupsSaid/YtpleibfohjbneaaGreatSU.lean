/- SchoolGroups: whatever the arguments, the law answers true. -/
import Derived.Test.YtpleibfohjbneaaGreatST
import Derived.Test.YtpleibfohjbneaaGreatSP
namespace Go.Proofs.YtpleibfohjbneaaGreat
open Go Tx Go.RowKit
set_option linter.unusedSimpArgs false
set_option linter.unusedVariables false

theorem op_kids {w : World} {v : Value} (h : (Shp.sl 1 (.sl 2 shS)).rd w [v]) : ∃ (o : Option Addr) (c : Nat) (K : List Kd), v = .slice o K.length c ∧ KdX o c K w := by
  obtain ⟨o, c, K, h1, h2, h3, h4⟩ := op_slc (f := Kd.cs) (Q := fun k => SyX k.o k.c k.S w) (fun es h => by
    obtain ⟨o, c, S, h1, h2⟩ := op_stays h
    exact ⟨⟨o, c, S⟩, h1, h2⟩) h
  simp only [List.cons.injEq, and_true] at h1
  exact ⟨o, c, K, h1, h2, h4, h3⟩
theorem op_ints1 {w : World} {v : Value} (h : (Shp.sl 1 shI).rd w [v]) : ∃ (o : Option Addr) (c : Nat) (xs : List Int), v = .slice o xs.length c ∧ Rd 1 iF (.slice o xs.length c) xs w ∧ xs.length ≤ 9223372036854775807 := by
  obtain ⟨o, c, xs, h1, h2, h3, _⟩ := op_ints h
  simp only [List.cons.injEq, and_true] at h1
  exact ⟨o, c, xs, h1, h2, h3⟩

theorem SchoolGroups_ok (x : Cr) (o : Option Addr) (c : Nat) (K : List Kd) (go : Option Addr) (gc : Nat) (xs : List Int) (n : Int) (w : World) (hX : CrX x w) (hK : KdX o c K w) (hg : Rd 1 iF (.slice go xs.length gc) xs w) :
    Calls Tryz.prog 11 #[x.v, .slice o K.length c, .slice go xs.length gc, iv n] w fun e w' => e = .returned (.bool true) ∧ Below w.heap.size w w' := by
  obtain ⟨no, nc, N, wk, co, cc, C⟩ := x
  by_cases hb : crOk N wk (C.map Rw.xs) = true ∧ K.length ≤ 40 ∧ xs.length ≤ 45
  · have hI : CrIn ⟨no, nc, N, wk, co, cc, C⟩ w := hX.cin (thB_of (wk := wk) hb.1)
    have hnl : N.length ≤ 1000000 := hI.nl
    cases xs with
    | nil =>
      exact Gr_top0 no nc N wk co cc C o c K go gc [] n w hI hK hg hb.1 hb.2.1 hb.2.2 fun hKd hj =>
        Gr4 no nc N wk co cc C o c K go gc [] n w hI hKd hg hb.1 hb.2.2 hj fun y =>
          Gr5n no nc N wk co cc C o c K go gc n w y hI hKd hg hb.1 hb.2.2 hj fun z =>
            Gr6 no nc N wk co cc C o c K go gc [] n w y z hnl (Gr8 no nc N wk co cc C o c K go gc [] n w y hI hKd hg hb.1 hb.2.2 hj)
    | cons x xs =>
      exact Gr_top1 no nc N wk co cc C o c K go gc x xs n w hI hK hg hb.1 hb.2.1 hb.2.2 fun hKd hj =>
        Gr4 no nc N wk co cc C o c K go gc (x :: xs) n w hI hKd hg hb.1 hb.2.2 hj fun y =>
          Gr5c no nc N wk co cc C o c K go gc x xs n w y hI hKd hg hb.1 hb.2.2 hj fun z =>
            Gr6 no nc N wk co cc C o c K go gc (x :: xs) n w y z hnl (Gr8 no nc N wk co cc C o c K go gc (x :: xs) n w y hI hKd hg hb.1 hb.2.2 hj)
  · exact Gr_bad no nc N wk co cc C o c K go gc xs n w hX hb
end Go.Proofs.YtpleibfohjbneaaGreat
