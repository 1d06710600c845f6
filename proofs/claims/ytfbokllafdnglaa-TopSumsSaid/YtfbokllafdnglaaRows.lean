/-
  No cell of these rows narrows 'for every input' (looked for: loops, veiled, ifaces, maps, wideKeys, modest, calm, conditions, laid).
  DERIVED. THE GIVEN ROWS OF THIS SEAT. 3 by the template 'for every input the law returns true; each argument reads behind the call as it read before'; 0 by the template 'total and deterministic' (their statements: YtfbokllafdnglaaTotals.lean).
  GIVEN WITH THE SEED: the statements are not yours to turn. If you find one false, say at which input.
  Laid BY PROGRAM, IN A SANDBOX (cutbox-rows.mjs): the forced cells as the released guide's own fill.sh prints them over the translation e7607fb58944a5db… (all of the seat's roots in one cut). By AI agents, Wed Nov 11 2026. No macro, syntax, notation, axiom, sorry.
-/
import Derived.Test.YtfbokllafdnglaaChecked
import GoSem.Claim
import GoSem.ClaimJoined
import GoSem.ClaimMapViews
import Derived.JoinedTies
import Derived.KernelRfl
namespace Go.Proofs.Ytfbokllafdnglaa
/- THE CELL 'sum', in the pinned program and in every row, IS THE sha256 OF THE DUMP (.gsa) THAT YtfbokllafdnglaaProg.lean LOADS. Nothing in Lean hashes anything: it is a label: what it is worth is what the hold of that sum in a sandbox is worth. -/
noncomputable def Try.pinned : Pinned := { name := "ytfbokllafdnglaa", sum := "e7607fb58944a5db0bf9e24a222bed948241eaf1f628d79c7982432abb22a906", checked := Try.checked }
namespace Rows
def none {H : Type} : Left H := { results := [], args := [] }

/-- 'bigtoptop.TopPoles': WHATEVER THE INPUT: true; the input reads as it did. -/
def topPolesSpec : ChangeSpec := { name := "topPoles", fn := fun _ => fun
  | [d] => { results := [.lit (.bool true)], args := [d] }
  | _ => none }
def topPolesRow : OpenClaim := { program := "ytfbokllafdnglaa", sum := "e7607fb58944a5db0bf9e24a222bed948241eaf1f628d79c7982432abb22a906", func := "bigtop/bigtoptop.TopPoles", spec := "topPoles", unfollowed := true, recurses := true, apart := false }
def TopPolesSaid : Prop := topPolesRow.holds Try.pinned (OpenSpec.ofChange topPolesSpec)

/-- ITS FALSE NEIGHBOUR: 'it returns false'. Refute it at one input. -/
def topPolesWrong : ChangeSpec := { name := "topPoles", fn := fun _ => fun
  | [d] => { results := [.lit (.bool false)], args := [d] }
  | _ => none }
def TopPolesWrongFalsely : Prop := topPolesRow.holds Try.pinned (OpenSpec.ofChange topPolesWrong)

/-- 'bigtoptop.TopCatcher': WHATEVER THE INPUT: true; the input reads as it did. -/
def topCatcherSpec : ChangeSpec := { name := "topCatcher", fn := fun _ => fun
  | [d1, d2, d3, d4, d5] => { results := [.lit (.bool true)], args := [d1, d2, d3, d4, d5] }
  | _ => none }
def topCatcherRow : OpenClaim := { program := "ytfbokllafdnglaa", sum := "e7607fb58944a5db0bf9e24a222bed948241eaf1f628d79c7982432abb22a906", func := "bigtop/bigtoptop.TopCatcher", spec := "topCatcher", unfollowed := true, recurses := true, apart := false }
def TopCatcherSaid : Prop := topCatcherRow.holds Try.pinned (OpenSpec.ofChange topCatcherSpec)

/-- ITS FALSE NEIGHBOUR: 'it returns false'. Refute it at one input. -/
def topCatcherWrong : ChangeSpec := { name := "topCatcher", fn := fun _ => fun
  | [d1, d2, d3, d4, d5] => { results := [.lit (.bool false)], args := [d1, d2, d3, d4, d5] }
  | _ => none }
def TopCatcherWrongFalsely : Prop := topCatcherRow.holds Try.pinned (OpenSpec.ofChange topCatcherWrong)

/-- 'bigtoptop.TopSums': WHATEVER THE INPUT: true; the input reads as it did. -/
def topSumsSpec : ChangeSpec := { name := "topSums", fn := fun _ => fun
  | [d] => { results := [.lit (.bool true)], args := [d] }
  | _ => none }
def topSumsRow : OpenClaim := { program := "ytfbokllafdnglaa", sum := "e7607fb58944a5db0bf9e24a222bed948241eaf1f628d79c7982432abb22a906", func := "bigtop/bigtoptop.TopSums", spec := "topSums", unfollowed := true, recurses := true, apart := false }
def TopSumsSaid : Prop := topSumsRow.holds Try.pinned (OpenSpec.ofChange topSumsSpec)

/-- ITS FALSE NEIGHBOUR: 'it returns false'. Refute it at one input. -/
def topSumsWrong : ChangeSpec := { name := "topSums", fn := fun _ => fun
  | [d] => { results := [.lit (.bool false)], args := [d] }
  | _ => none }
def TopSumsWrongFalsely : Prop := topSumsRow.holds Try.pinned (OpenSpec.ofChange topSumsWrong)

/- THE SECOND FORM. 'bulk': how many values and letters a reading holds, each counted each time it is reached (what is shared counts as often as it is met; a slice's spare places count too). A statement '..UptoSaid' is the law's where the arguments, and the package variables that the reading takes, are together of bulk at most 1048576: NARROWER than '..Said'. Prove '..Said' where nothing that the law and all that it calls make is longer than what came in: it says more and counts as full. Else prove '..UptoSaid'. A law counts once. -/
mutual
def uptoBulk {H : Type} : DataW H → Nat
  | .lit (.string bytes) => bytes.length + 1
  | .lit _ => 1
  | .nil => 1
  | .ptr d => uptoBulk d + 1
  | .slice elems spare => uptoBulkAll elems + uptoBulkAll spare + 1
  | .agg parts => uptoBulkAll parts + 1
  | .iface _ d => uptoBulk d + 1
  | .map entries => uptoBulkEntries entries + 1
  | .held _ => 1
def uptoBulkAll {H : Type} : List (DataW H) → Nat
  | [] => 0
  | d :: r => uptoBulk d + uptoBulkAll r
def uptoBulkEntries {H : Type} : List (Lit × DataW H) → Nat
  | [] => 0
  | x :: r => uptoBulkEntry x + uptoBulkEntries r
def uptoBulkEntry {H : Type} : Lit × DataW H → Nat
  | (.string bytes, d) => bytes.length + uptoBulk d + 1
  | (_, d) => uptoBulk d + 1
 end
def uptoSmall : (H : Type) → List (DataW H) → Bool := fun _ ds => decide (uptoBulkAll ds ≤ 1048576)
def OpenSpec.upto (s : _root_.Go.ChangeSpec) : _root_.Go.OpenSpec := { _root_.Go.OpenSpec.ofChange s with cond := some uptoSmall }

/-- 'bigtoptop.TopPoles', WHERE WHAT IT READS IS OF BULK AT MOST 1048576: true; the input reads as it did. -/
def topPolesUptoRow : OpenClaim := { program := "ytfbokllafdnglaa", sum := "e7607fb58944a5db0bf9e24a222bed948241eaf1f628d79c7982432abb22a906", func := "bigtop/bigtoptop.TopPoles", spec := "topPoles", unfollowed := true, recurses := true, apart := false, narrowed := true }
def TopPolesUptoSaid : Prop := topPolesUptoRow.holds Try.pinned (OpenSpec.upto topPolesSpec)

/-- 'bigtoptop.TopCatcher', WHERE WHAT IT READS IS OF BULK AT MOST 1048576: true; the input reads as it did. -/
def topCatcherUptoRow : OpenClaim := { program := "ytfbokllafdnglaa", sum := "e7607fb58944a5db0bf9e24a222bed948241eaf1f628d79c7982432abb22a906", func := "bigtop/bigtoptop.TopCatcher", spec := "topCatcher", unfollowed := true, recurses := true, apart := false, narrowed := true }
def TopCatcherUptoSaid : Prop := topCatcherUptoRow.holds Try.pinned (OpenSpec.upto topCatcherSpec)

/-- 'bigtoptop.TopSums', WHERE WHAT IT READS IS OF BULK AT MOST 1048576: true; the input reads as it did. -/
def topSumsUptoRow : OpenClaim := { program := "ytfbokllafdnglaa", sum := "e7607fb58944a5db0bf9e24a222bed948241eaf1f628d79c7982432abb22a906", func := "bigtop/bigtoptop.TopSums", spec := "topSums", unfollowed := true, recurses := true, apart := false, narrowed := true }
def TopSumsUptoSaid : Prop := topSumsUptoRow.holds Try.pinned (OpenSpec.upto topSumsSpec)

end Rows
end Go.Proofs.Ytfbokllafdnglaa
