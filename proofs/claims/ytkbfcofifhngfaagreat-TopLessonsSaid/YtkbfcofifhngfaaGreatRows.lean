/-
  No cell of these rows narrows 'for every input' (looked for: loops, veiled, ifaces, maps, wideKeys, modest, calm, conditions, laid).
  DERIVED. THE GIVEN ROWS OF THIS SEAT. 8 by the template 'for every input the law returns true; each argument reads behind the call as it read before'; 0 by the template 'total and deterministic' (their statements: YtkbfcofifhngfaaGreatTotals.lean).
  GIVEN WITH THE SEED: the statements are not yours to turn. If you find one false, say at which input.
  Laid BY PROGRAM, IN A SANDBOX (cutbox-rows.mjs): the forced cells as the released guide's own fill.sh prints them over the translation e1aa580e99c6c3e5… (all of the seat's roots in one cut). By AI agents, Wed Nov 11 2026. No macro, syntax, notation, axiom, sorry.
-/
import Derived.Test.YtkbfcofifhngfaaGreatChecked
import GoSem.Claim
import GoSem.ClaimJoined
import GoSem.ClaimMapViews
import Derived.JoinedTies
import Derived.KernelRfl
namespace Go.Proofs.YtkbfcofifhngfaaGreat
/- THE CELL 'sum', in the pinned program and in every row, IS THE sha256 OF THE DUMP (.gsa) THAT YtkbfcofifhngfaaGreatProg.lean LOADS. Nothing in Lean hashes anything: it is a label: what it is worth is what the hold of that sum in a sandbox is worth. -/
noncomputable def Tryz.pinned : Pinned := { name := "ytkbfcofifhngfaagreat", sum := "e1aa580e99c6c3e5c85ee817dc90ce12dc61f63e699186d8b4fc5e92be5fa9b2", checked := Tryz.checked }
namespace Rows
def none {H : Type} : Left H := { results := [], args := [] }

/-- 'bigtoplaw11.SchoolTables': WHATEVER THE INPUT: true; the input reads as it did. -/
def schoolTablesSpec : ChangeSpec := { name := "schoolTables", fn := fun _ => fun
  | [d] => { results := [.lit (.bool true)], args := [d] }
  | _ => none }
def schoolTablesRow : OpenClaim := { program := "ytkbfcofifhngfaagreat", sum := "e1aa580e99c6c3e5c85ee817dc90ce12dc61f63e699186d8b4fc5e92be5fa9b2", func := "bigtop/bigtoplaw11.SchoolTables", spec := "schoolTables", unfollowed := true, recurses := true, apart := false }
def SchoolTablesSaid : Prop := schoolTablesRow.holds Tryz.pinned (OpenSpec.ofChange schoolTablesSpec)

/-- ITS FALSE NEIGHBOUR: 'it returns false'. Refute it at one input. -/
def schoolTablesWrong : ChangeSpec := { name := "schoolTables", fn := fun _ => fun
  | [d] => { results := [.lit (.bool false)], args := [d] }
  | _ => none }
def SchoolTablesWrongFalsely : Prop := schoolTablesRow.holds Tryz.pinned (OpenSpec.ofChange schoolTablesWrong)

/-- 'bigtoplaw11.SchoolLeast': WHATEVER THE INPUT: true; the input reads as it did. -/
def schoolLeastSpec : ChangeSpec := { name := "schoolLeast", fn := fun _ => fun
  | [d] => { results := [.lit (.bool true)], args := [d] }
  | _ => none }
def schoolLeastRow : OpenClaim := { program := "ytkbfcofifhngfaagreat", sum := "e1aa580e99c6c3e5c85ee817dc90ce12dc61f63e699186d8b4fc5e92be5fa9b2", func := "bigtop/bigtoplaw11.SchoolLeast", spec := "schoolLeast", unfollowed := true, recurses := true, apart := false }
def SchoolLeastSaid : Prop := schoolLeastRow.holds Tryz.pinned (OpenSpec.ofChange schoolLeastSpec)

/-- ITS FALSE NEIGHBOUR: 'it returns false'. Refute it at one input. -/
def schoolLeastWrong : ChangeSpec := { name := "schoolLeast", fn := fun _ => fun
  | [d] => { results := [.lit (.bool false)], args := [d] }
  | _ => none }
def SchoolLeastWrongFalsely : Prop := schoolLeastRow.holds Tryz.pinned (OpenSpec.ofChange schoolLeastWrong)

/-- 'bigtoplaw11.SchoolMore': WHATEVER THE INPUT: true; the input reads as it did. -/
def schoolMoreSpec : ChangeSpec := { name := "schoolMore", fn := fun _ => fun
  | [d1, d2, d3, d4] => { results := [.lit (.bool true)], args := [d1, d2, d3, d4] }
  | _ => none }
def schoolMoreRow : OpenClaim := { program := "ytkbfcofifhngfaagreat", sum := "e1aa580e99c6c3e5c85ee817dc90ce12dc61f63e699186d8b4fc5e92be5fa9b2", func := "bigtop/bigtoplaw11.SchoolMore", spec := "schoolMore", unfollowed := true, recurses := true, apart := false }
def SchoolMoreSaid : Prop := schoolMoreRow.holds Tryz.pinned (OpenSpec.ofChange schoolMoreSpec)

/-- ITS FALSE NEIGHBOUR: 'it returns false'. Refute it at one input. -/
def schoolMoreWrong : ChangeSpec := { name := "schoolMore", fn := fun _ => fun
  | [d1, d2, d3, d4] => { results := [.lit (.bool false)], args := [d1, d2, d3, d4] }
  | _ => none }
def SchoolMoreWrongFalsely : Prop := schoolMoreRow.holds Tryz.pinned (OpenSpec.ofChange schoolMoreWrong)

/-- 'bigtoplaw11.SchoolTurns': WHATEVER THE INPUT: true; the input reads as it did. -/
def schoolTurnsSpec : ChangeSpec := { name := "schoolTurns", fn := fun _ => fun
  | [d1, d2, d3] => { results := [.lit (.bool true)], args := [d1, d2, d3] }
  | _ => none }
def schoolTurnsRow : OpenClaim := { program := "ytkbfcofifhngfaagreat", sum := "e1aa580e99c6c3e5c85ee817dc90ce12dc61f63e699186d8b4fc5e92be5fa9b2", func := "bigtop/bigtoplaw11.SchoolTurns", spec := "schoolTurns", unfollowed := true, recurses := true, apart := false }
def SchoolTurnsSaid : Prop := schoolTurnsRow.holds Tryz.pinned (OpenSpec.ofChange schoolTurnsSpec)

/-- ITS FALSE NEIGHBOUR: 'it returns false'. Refute it at one input. -/
def schoolTurnsWrong : ChangeSpec := { name := "schoolTurns", fn := fun _ => fun
  | [d1, d2, d3] => { results := [.lit (.bool false)], args := [d1, d2, d3] }
  | _ => none }
def SchoolTurnsWrongFalsely : Prop := schoolTurnsRow.holds Tryz.pinned (OpenSpec.ofChange schoolTurnsWrong)

/-- 'bigtoplaw11.SchoolWhy': WHATEVER THE INPUT: true; the input reads as it did. -/
def schoolWhySpec : ChangeSpec := { name := "schoolWhy", fn := fun _ => fun
  | [d1, d2, d3, d4] => { results := [.lit (.bool true)], args := [d1, d2, d3, d4] }
  | _ => none }
def schoolWhyRow : OpenClaim := { program := "ytkbfcofifhngfaagreat", sum := "e1aa580e99c6c3e5c85ee817dc90ce12dc61f63e699186d8b4fc5e92be5fa9b2", func := "bigtop/bigtoplaw11.SchoolWhy", spec := "schoolWhy", unfollowed := true, recurses := true, apart := false }
def SchoolWhySaid : Prop := schoolWhyRow.holds Tryz.pinned (OpenSpec.ofChange schoolWhySpec)

/-- ITS FALSE NEIGHBOUR: 'it returns false'. Refute it at one input. -/
def schoolWhyWrong : ChangeSpec := { name := "schoolWhy", fn := fun _ => fun
  | [d1, d2, d3, d4] => { results := [.lit (.bool false)], args := [d1, d2, d3, d4] }
  | _ => none }
def SchoolWhyWrongFalsely : Prop := schoolWhyRow.holds Tryz.pinned (OpenSpec.ofChange schoolWhyWrong)

/-- 'bigtoplaw11.SchoolFits': WHATEVER THE INPUT: true; the input reads as it did. -/
def schoolFitsSpec : ChangeSpec := { name := "schoolFits", fn := fun _ => fun
  | [d1, d2] => { results := [.lit (.bool true)], args := [d1, d2] }
  | _ => none }
def schoolFitsRow : OpenClaim := { program := "ytkbfcofifhngfaagreat", sum := "e1aa580e99c6c3e5c85ee817dc90ce12dc61f63e699186d8b4fc5e92be5fa9b2", func := "bigtop/bigtoplaw11.SchoolFits", spec := "schoolFits", unfollowed := true, recurses := true, apart := false }
def SchoolFitsSaid : Prop := schoolFitsRow.holds Tryz.pinned (OpenSpec.ofChange schoolFitsSpec)

/-- ITS FALSE NEIGHBOUR: 'it returns false'. Refute it at one input. -/
def schoolFitsWrong : ChangeSpec := { name := "schoolFits", fn := fun _ => fun
  | [d1, d2] => { results := [.lit (.bool false)], args := [d1, d2] }
  | _ => none }
def SchoolFitsWrongFalsely : Prop := schoolFitsRow.holds Tryz.pinned (OpenSpec.ofChange schoolFitsWrong)

/-- 'bigtoplaw11.SchoolEither': WHATEVER THE INPUT: true; the input reads as it did. -/
def schoolEitherSpec : ChangeSpec := { name := "schoolEither", fn := fun _ => fun
  | [d1, d2, d3] => { results := [.lit (.bool true)], args := [d1, d2, d3] }
  | _ => none }
def schoolEitherRow : OpenClaim := { program := "ytkbfcofifhngfaagreat", sum := "e1aa580e99c6c3e5c85ee817dc90ce12dc61f63e699186d8b4fc5e92be5fa9b2", func := "bigtop/bigtoplaw11.SchoolEither", spec := "schoolEither", unfollowed := true, recurses := true, apart := false }
def SchoolEitherSaid : Prop := schoolEitherRow.holds Tryz.pinned (OpenSpec.ofChange schoolEitherSpec)

/-- ITS FALSE NEIGHBOUR: 'it returns false'. Refute it at one input. -/
def schoolEitherWrong : ChangeSpec := { name := "schoolEither", fn := fun _ => fun
  | [d1, d2, d3] => { results := [.lit (.bool false)], args := [d1, d2, d3] }
  | _ => none }
def SchoolEitherWrongFalsely : Prop := schoolEitherRow.holds Tryz.pinned (OpenSpec.ofChange schoolEitherWrong)

/-- 'bigtoptop.TopLessons': WHATEVER THE INPUT: true; the input reads as it did. -/
def topLessonsSpec : ChangeSpec := { name := "topLessons", fn := fun _ => fun
  | [d1, d2] => { results := [.lit (.bool true)], args := [d1, d2] }
  | _ => none }
def topLessonsRow : OpenClaim := { program := "ytkbfcofifhngfaagreat", sum := "e1aa580e99c6c3e5c85ee817dc90ce12dc61f63e699186d8b4fc5e92be5fa9b2", func := "bigtop/bigtoptop.TopLessons", spec := "topLessons", unfollowed := true, recurses := true, apart := false }
def TopLessonsSaid : Prop := topLessonsRow.holds Tryz.pinned (OpenSpec.ofChange topLessonsSpec)

/-- ITS FALSE NEIGHBOUR: 'it returns false'. Refute it at one input. -/
def topLessonsWrong : ChangeSpec := { name := "topLessons", fn := fun _ => fun
  | [d1, d2] => { results := [.lit (.bool false)], args := [d1, d2] }
  | _ => none }
def TopLessonsWrongFalsely : Prop := topLessonsRow.holds Tryz.pinned (OpenSpec.ofChange topLessonsWrong)

/- THE SECOND FORM. 'bulk': how many values and letters a reading holds, each counted each time it is reached (what is shared counts as often as it is met; a slice's spare places count too). A statement '..UptoSaid' is the law's where the arguments, and the package variables that the reading takes, are together of bulk at most 1048576: NARROWER than '..Said'. Prove '..Said' where nothing that the law and all that it calls make is longer than what came in: it says more and counts as full. Else prove '..UptoSaid'. A law counts once. -/
mutual
def uptoBulk {H : Type} : DataW H → Nat
  | .lit (.string bytes) => bytes.length + 1
  | .lit _ => 1
  | .nil => 1
  | .ptr d => uptoBulk d + 1
  | .slice elems spare => uptoBulkAll elems + uptoBulkAll spare + 1
  | .agg parts => uptoBulkAll parts + 1
  | .iface _ d => uptoBulk d + 1
  | .map entries => uptoBulkEntries entries + 1
  | .held _ => 1
def uptoBulkAll {H : Type} : List (DataW H) → Nat
  | [] => 0
  | d :: r => uptoBulk d + uptoBulkAll r
def uptoBulkEntries {H : Type} : List (Lit × DataW H) → Nat
  | [] => 0
  | x :: r => uptoBulkEntry x + uptoBulkEntries r
def uptoBulkEntry {H : Type} : Lit × DataW H → Nat
  | (.string bytes, d) => bytes.length + uptoBulk d + 1
  | (_, d) => uptoBulk d + 1
 end
def uptoSmall : (H : Type) → List (DataW H) → Bool := fun _ ds => decide (uptoBulkAll ds ≤ 1048576)
def OpenSpec.upto (s : _root_.Go.ChangeSpec) : _root_.Go.OpenSpec := { _root_.Go.OpenSpec.ofChange s with cond := some uptoSmall }

/-- 'bigtoplaw11.SchoolTables', WHERE WHAT IT READS IS OF BULK AT MOST 1048576: true; the input reads as it did. -/
def schoolTablesUptoRow : OpenClaim := { program := "ytkbfcofifhngfaagreat", sum := "e1aa580e99c6c3e5c85ee817dc90ce12dc61f63e699186d8b4fc5e92be5fa9b2", func := "bigtop/bigtoplaw11.SchoolTables", spec := "schoolTables", unfollowed := true, recurses := true, apart := false, narrowed := true }
def SchoolTablesUptoSaid : Prop := schoolTablesUptoRow.holds Tryz.pinned (OpenSpec.upto schoolTablesSpec)

/-- 'bigtoplaw11.SchoolLeast', WHERE WHAT IT READS IS OF BULK AT MOST 1048576: true; the input reads as it did. -/
def schoolLeastUptoRow : OpenClaim := { program := "ytkbfcofifhngfaagreat", sum := "e1aa580e99c6c3e5c85ee817dc90ce12dc61f63e699186d8b4fc5e92be5fa9b2", func := "bigtop/bigtoplaw11.SchoolLeast", spec := "schoolLeast", unfollowed := true, recurses := true, apart := false, narrowed := true }
def SchoolLeastUptoSaid : Prop := schoolLeastUptoRow.holds Tryz.pinned (OpenSpec.upto schoolLeastSpec)

/-- 'bigtoplaw11.SchoolMore', WHERE WHAT IT READS IS OF BULK AT MOST 1048576: true; the input reads as it did. -/
def schoolMoreUptoRow : OpenClaim := { program := "ytkbfcofifhngfaagreat", sum := "e1aa580e99c6c3e5c85ee817dc90ce12dc61f63e699186d8b4fc5e92be5fa9b2", func := "bigtop/bigtoplaw11.SchoolMore", spec := "schoolMore", unfollowed := true, recurses := true, apart := false, narrowed := true }
def SchoolMoreUptoSaid : Prop := schoolMoreUptoRow.holds Tryz.pinned (OpenSpec.upto schoolMoreSpec)

/-- 'bigtoplaw11.SchoolTurns', WHERE WHAT IT READS IS OF BULK AT MOST 1048576: true; the input reads as it did. -/
def schoolTurnsUptoRow : OpenClaim := { program := "ytkbfcofifhngfaagreat", sum := "e1aa580e99c6c3e5c85ee817dc90ce12dc61f63e699186d8b4fc5e92be5fa9b2", func := "bigtop/bigtoplaw11.SchoolTurns", spec := "schoolTurns", unfollowed := true, recurses := true, apart := false, narrowed := true }
def SchoolTurnsUptoSaid : Prop := schoolTurnsUptoRow.holds Tryz.pinned (OpenSpec.upto schoolTurnsSpec)

/-- 'bigtoplaw11.SchoolWhy', WHERE WHAT IT READS IS OF BULK AT MOST 1048576: true; the input reads as it did. -/
def schoolWhyUptoRow : OpenClaim := { program := "ytkbfcofifhngfaagreat", sum := "e1aa580e99c6c3e5c85ee817dc90ce12dc61f63e699186d8b4fc5e92be5fa9b2", func := "bigtop/bigtoplaw11.SchoolWhy", spec := "schoolWhy", unfollowed := true, recurses := true, apart := false, narrowed := true }
def SchoolWhyUptoSaid : Prop := schoolWhyUptoRow.holds Tryz.pinned (OpenSpec.upto schoolWhySpec)

/-- 'bigtoplaw11.SchoolFits', WHERE WHAT IT READS IS OF BULK AT MOST 1048576: true; the input reads as it did. -/
def schoolFitsUptoRow : OpenClaim := { program := "ytkbfcofifhngfaagreat", sum := "e1aa580e99c6c3e5c85ee817dc90ce12dc61f63e699186d8b4fc5e92be5fa9b2", func := "bigtop/bigtoplaw11.SchoolFits", spec := "schoolFits", unfollowed := true, recurses := true, apart := false, narrowed := true }
def SchoolFitsUptoSaid : Prop := schoolFitsUptoRow.holds Tryz.pinned (OpenSpec.upto schoolFitsSpec)

/-- 'bigtoplaw11.SchoolEither', WHERE WHAT IT READS IS OF BULK AT MOST 1048576: true; the input reads as it did. -/
def schoolEitherUptoRow : OpenClaim := { program := "ytkbfcofifhngfaagreat", sum := "e1aa580e99c6c3e5c85ee817dc90ce12dc61f63e699186d8b4fc5e92be5fa9b2", func := "bigtop/bigtoplaw11.SchoolEither", spec := "schoolEither", unfollowed := true, recurses := true, apart := false, narrowed := true }
def SchoolEitherUptoSaid : Prop := schoolEitherUptoRow.holds Tryz.pinned (OpenSpec.upto schoolEitherSpec)

/-- 'bigtoptop.TopLessons', WHERE WHAT IT READS IS OF BULK AT MOST 1048576: true; the input reads as it did. -/
def topLessonsUptoRow : OpenClaim := { program := "ytkbfcofifhngfaagreat", sum := "e1aa580e99c6c3e5c85ee817dc90ce12dc61f63e699186d8b4fc5e92be5fa9b2", func := "bigtop/bigtoptop.TopLessons", spec := "topLessons", unfollowed := true, recurses := true, apart := false, narrowed := true }
def TopLessonsUptoSaid : Prop := topLessonsUptoRow.holds Tryz.pinned (OpenSpec.upto topLessonsSpec)

end Rows
end Go.Proofs.YtkbfcofifhngfaaGreat
