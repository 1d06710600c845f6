/-
  No cell of these rows narrows 'for every input' (looked for: loops, veiled, ifaces, maps, wideKeys, modest, calm, conditions, laid).
  DERIVED. THE GIVEN ROWS OF THIS SEAT. 15 by the template 'for every input the law returns true; each argument reads behind the call as it read before'; 0 by the template 'total and deterministic' (their statements: YtlehjapeomallaaTotals.lean).
  GIVEN WITH THE SEED: the statements are not yours to turn. If you find one false, say at which input.
  Laid BY PROGRAM, IN A SANDBOX (cutbox-rows.mjs): the forced cells as the released guide's own fill.sh prints them over the translation 9f5275d4a2086bd7… (all of the seat's roots in one cut). By AI agents, Wed Nov 11 2026. No macro, syntax, notation, axiom, sorry.
-/
import Derived.Test.YtlehjapeomallaaChecked
import GoSem.Claim
import GoSem.ClaimJoined
import GoSem.ClaimMapViews
import Derived.JoinedTies
import Derived.KernelRfl
namespace Go.Proofs.Ytlehjapeomallaa
/- THE CELL 'sum', in the pinned program and in every row, IS THE sha256 OF THE DUMP (.gsa) THAT YtlehjapeomallaaProg.lean LOADS. Nothing in Lean hashes anything: it is a label: what it is worth is what the hold of that sum in a sandbox is worth. -/
noncomputable def Try.pinned : Pinned := { name := "ytlehjapeomallaa", sum := "9f5275d4a2086bd70d142ba397026e38b00f82b5802bbf89731c1357746714e4", checked := Try.checked }
namespace Rows
def none {H : Type} : Left H := { results := [], args := [] }

/-- 'bigtoplaw04.FlightSwings': WHATEVER THE INPUT: true; the input reads as it did. -/
def flightSwingsSpec : ChangeSpec := { name := "flightSwings", fn := fun _ => fun
  | [d1, d2] => { results := [.lit (.bool true)], args := [d1, d2] }
  | _ => none }
def flightSwingsRow : OpenClaim := { program := "ytlehjapeomallaa", sum := "9f5275d4a2086bd70d142ba397026e38b00f82b5802bbf89731c1357746714e4", func := "bigtop/bigtoplaw04.FlightSwings", spec := "flightSwings", unfollowed := true, recurses := true, apart := false }
def FlightSwingsSaid : Prop := flightSwingsRow.holds Try.pinned (OpenSpec.ofChange flightSwingsSpec)

/-- ITS FALSE NEIGHBOUR: 'it returns false'. Refute it at one input. -/
def flightSwingsWrong : ChangeSpec := { name := "flightSwings", fn := fun _ => fun
  | [d1, d2] => { results := [.lit (.bool false)], args := [d1, d2] }
  | _ => none }
def FlightSwingsWrongFalsely : Prop := flightSwingsRow.holds Try.pinned (OpenSpec.ofChange flightSwingsWrong)

/-- 'bigtoplaw04.FlightCatches': WHATEVER THE INPUT: true; the input reads as it did. -/
def flightCatchesSpec : ChangeSpec := { name := "flightCatches", fn := fun _ => fun
  | [d1, d2] => { results := [.lit (.bool true)], args := [d1, d2] }
  | _ => none }
def flightCatchesRow : OpenClaim := { program := "ytlehjapeomallaa", sum := "9f5275d4a2086bd70d142ba397026e38b00f82b5802bbf89731c1357746714e4", func := "bigtop/bigtoplaw04.FlightCatches", spec := "flightCatches", unfollowed := true, recurses := true, apart := false }
def FlightCatchesSaid : Prop := flightCatchesRow.holds Try.pinned (OpenSpec.ofChange flightCatchesSpec)

/-- ITS FALSE NEIGHBOUR: 'it returns false'. Refute it at one input. -/
def flightCatchesWrong : ChangeSpec := { name := "flightCatches", fn := fun _ => fun
  | [d1, d2] => { results := [.lit (.bool false)], args := [d1, d2] }
  | _ => none }
def FlightCatchesWrongFalsely : Prop := flightCatchesRow.holds Try.pinned (OpenSpec.ofChange flightCatchesWrong)

/-- 'bigtoplaw04.FlightSure': WHATEVER THE INPUT: true; the input reads as it did. -/
def flightSureSpec : ChangeSpec := { name := "flightSure", fn := fun _ => fun
  | [d1, d2, d3] => { results := [.lit (.bool true)], args := [d1, d2, d3] }
  | _ => none }
def flightSureRow : OpenClaim := { program := "ytlehjapeomallaa", sum := "9f5275d4a2086bd70d142ba397026e38b00f82b5802bbf89731c1357746714e4", func := "bigtop/bigtoplaw04.FlightSure", spec := "flightSure", unfollowed := true, recurses := true, apart := false }
def FlightSureSaid : Prop := flightSureRow.holds Try.pinned (OpenSpec.ofChange flightSureSpec)

/-- ITS FALSE NEIGHBOUR: 'it returns false'. Refute it at one input. -/
def flightSureWrong : ChangeSpec := { name := "flightSure", fn := fun _ => fun
  | [d1, d2, d3] => { results := [.lit (.bool false)], args := [d1, d2, d3] }
  | _ => none }
def FlightSureWrongFalsely : Prop := flightSureRow.holds Try.pinned (OpenSpec.ofChange flightSureWrong)

/-- 'bigtoplaw04.FlightCycles': WHATEVER THE INPUT: true; the input reads as it did. -/
def flightCyclesSpec : ChangeSpec := { name := "flightCycles", fn := fun _ => fun
  | [d1, d2] => { results := [.lit (.bool true)], args := [d1, d2] }
  | _ => none }
def flightCyclesRow : OpenClaim := { program := "ytlehjapeomallaa", sum := "9f5275d4a2086bd70d142ba397026e38b00f82b5802bbf89731c1357746714e4", func := "bigtop/bigtoplaw04.FlightCycles", spec := "flightCycles", unfollowed := true, recurses := true, apart := false }
def FlightCyclesSaid : Prop := flightCyclesRow.holds Try.pinned (OpenSpec.ofChange flightCyclesSpec)

/-- ITS FALSE NEIGHBOUR: 'it returns false'. Refute it at one input. -/
def flightCyclesWrong : ChangeSpec := { name := "flightCycles", fn := fun _ => fun
  | [d1, d2] => { results := [.lit (.bool false)], args := [d1, d2] }
  | _ => none }
def FlightCyclesWrongFalsely : Prop := flightCyclesRow.holds Try.pinned (OpenSpec.ofChange flightCyclesWrong)

/-- 'bigtoplaw04.FlightSteady': WHATEVER THE INPUT: true; the input reads as it did. -/
def flightSteadySpec : ChangeSpec := { name := "flightSteady", fn := fun _ => fun
  | [d1, d2, d3, d4, d5] => { results := [.lit (.bool true)], args := [d1, d2, d3, d4, d5] }
  | _ => none }
def flightSteadyRow : OpenClaim := { program := "ytlehjapeomallaa", sum := "9f5275d4a2086bd70d142ba397026e38b00f82b5802bbf89731c1357746714e4", func := "bigtop/bigtoplaw04.FlightSteady", spec := "flightSteady", unfollowed := true, recurses := true, apart := false }
def FlightSteadySaid : Prop := flightSteadyRow.holds Try.pinned (OpenSpec.ofChange flightSteadySpec)

/-- ITS FALSE NEIGHBOUR: 'it returns false'. Refute it at one input. -/
def flightSteadyWrong : ChangeSpec := { name := "flightSteady", fn := fun _ => fun
  | [d1, d2, d3, d4, d5] => { results := [.lit (.bool false)], args := [d1, d2, d3, d4, d5] }
  | _ => none }
def FlightSteadyWrongFalsely : Prop := flightSteadyRow.holds Try.pinned (OpenSpec.ofChange flightSteadyWrong)

/-- 'bigtoplaw04.FlightPendulums': WHATEVER THE INPUT: true; the input reads as it did. -/
def flightPendulumsSpec : ChangeSpec := { name := "flightPendulums", fn := fun _ => fun
  | [d1, d2, d3] => { results := [.lit (.bool true)], args := [d1, d2, d3] }
  | _ => none }
def flightPendulumsRow : OpenClaim := { program := "ytlehjapeomallaa", sum := "9f5275d4a2086bd70d142ba397026e38b00f82b5802bbf89731c1357746714e4", func := "bigtop/bigtoplaw04.FlightPendulums", spec := "flightPendulums", unfollowed := true, recurses := true, apart := false }
def FlightPendulumsSaid : Prop := flightPendulumsRow.holds Try.pinned (OpenSpec.ofChange flightPendulumsSpec)

/-- ITS FALSE NEIGHBOUR: 'it returns false'. Refute it at one input. -/
def flightPendulumsWrong : ChangeSpec := { name := "flightPendulums", fn := fun _ => fun
  | [d1, d2, d3] => { results := [.lit (.bool false)], args := [d1, d2, d3] }
  | _ => none }
def FlightPendulumsWrongFalsely : Prop := flightPendulumsRow.holds Try.pinned (OpenSpec.ofChange flightPendulumsWrong)

/-- 'bigtoplaw04.FlightLands': WHATEVER THE INPUT: true; the input reads as it did. -/
def flightLandsSpec : ChangeSpec := { name := "flightLands", fn := fun _ => fun
  | [d1, d2] => { results := [.lit (.bool true)], args := [d1, d2] }
  | _ => none }
def flightLandsRow : OpenClaim := { program := "ytlehjapeomallaa", sum := "9f5275d4a2086bd70d142ba397026e38b00f82b5802bbf89731c1357746714e4", func := "bigtop/bigtoplaw04.FlightLands", spec := "flightLands", unfollowed := true, recurses := true, apart := false }
def FlightLandsSaid : Prop := flightLandsRow.holds Try.pinned (OpenSpec.ofChange flightLandsSpec)

/-- ITS FALSE NEIGHBOUR: 'it returns false'. Refute it at one input. -/
def flightLandsWrong : ChangeSpec := { name := "flightLands", fn := fun _ => fun
  | [d1, d2] => { results := [.lit (.bool false)], args := [d1, d2] }
  | _ => none }
def FlightLandsWrongFalsely : Prop := flightLandsRow.holds Try.pinned (OpenSpec.ofChange flightLandsWrong)

/-- 'bigtoplaw04.FlightNetted': WHATEVER THE INPUT: true; the input reads as it did. -/
def flightNettedSpec : ChangeSpec := { name := "flightNetted", fn := fun _ => fun
  | [d1, d2, d3] => { results := [.lit (.bool true)], args := [d1, d2, d3] }
  | _ => none }
def flightNettedRow : OpenClaim := { program := "ytlehjapeomallaa", sum := "9f5275d4a2086bd70d142ba397026e38b00f82b5802bbf89731c1357746714e4", func := "bigtop/bigtoplaw04.FlightNetted", spec := "flightNetted", unfollowed := true, recurses := true, apart := false }
def FlightNettedSaid : Prop := flightNettedRow.holds Try.pinned (OpenSpec.ofChange flightNettedSpec)

/-- ITS FALSE NEIGHBOUR: 'it returns false'. Refute it at one input. -/
def flightNettedWrong : ChangeSpec := { name := "flightNetted", fn := fun _ => fun
  | [d1, d2, d3] => { results := [.lit (.bool false)], args := [d1, d2, d3] }
  | _ => none }
def FlightNettedWrongFalsely : Prop := flightNettedRow.holds Try.pinned (OpenSpec.ofChange flightNettedWrong)

/-- 'bigtoplaw04.FlightMoves': WHATEVER THE INPUT: true; the input reads as it did. -/
def flightMovesSpec : ChangeSpec := { name := "flightMoves", fn := fun _ => fun
  | [d1, d2] => { results := [.lit (.bool true)], args := [d1, d2] }
  | _ => none }
def flightMovesRow : OpenClaim := { program := "ytlehjapeomallaa", sum := "9f5275d4a2086bd70d142ba397026e38b00f82b5802bbf89731c1357746714e4", func := "bigtop/bigtoplaw04.FlightMoves", spec := "flightMoves", unfollowed := true, recurses := true, apart := false }
def FlightMovesSaid : Prop := flightMovesRow.holds Try.pinned (OpenSpec.ofChange flightMovesSpec)

/-- ITS FALSE NEIGHBOUR: 'it returns false'. Refute it at one input. -/
def flightMovesWrong : ChangeSpec := { name := "flightMoves", fn := fun _ => fun
  | [d1, d2] => { results := [.lit (.bool false)], args := [d1, d2] }
  | _ => none }
def FlightMovesWrongFalsely : Prop := flightMovesRow.holds Try.pinned (OpenSpec.ofChange flightMovesWrong)

/-- 'bigtoplaw04.FlightProves': WHATEVER THE INPUT: true; the input reads as it did. -/
def flightProvesSpec : ChangeSpec := { name := "flightProves", fn := fun _ => fun
  | [d1, d2, d3, d4, d5, d6] => { results := [.lit (.bool true)], args := [d1, d2, d3, d4, d5, d6] }
  | _ => none }
def flightProvesRow : OpenClaim := { program := "ytlehjapeomallaa", sum := "9f5275d4a2086bd70d142ba397026e38b00f82b5802bbf89731c1357746714e4", func := "bigtop/bigtoplaw04.FlightProves", spec := "flightProves", unfollowed := true, recurses := true, apart := false }
def FlightProvesSaid : Prop := flightProvesRow.holds Try.pinned (OpenSpec.ofChange flightProvesSpec)

/-- ITS FALSE NEIGHBOUR: 'it returns false'. Refute it at one input. -/
def flightProvesWrong : ChangeSpec := { name := "flightProves", fn := fun _ => fun
  | [d1, d2, d3, d4, d5, d6] => { results := [.lit (.bool false)], args := [d1, d2, d3, d4, d5, d6] }
  | _ => none }
def FlightProvesWrongFalsely : Prop := flightProvesRow.holds Try.pinned (OpenSpec.ofChange flightProvesWrong)

/-- 'bigtoplaw04.FlightChains': WHATEVER THE INPUT: true; the input reads as it did. -/
def flightChainsSpec : ChangeSpec := { name := "flightChains", fn := fun _ => fun
  | [d1, d2, d3] => { results := [.lit (.bool true)], args := [d1, d2, d3] }
  | _ => none }
def flightChainsRow : OpenClaim := { program := "ytlehjapeomallaa", sum := "9f5275d4a2086bd70d142ba397026e38b00f82b5802bbf89731c1357746714e4", func := "bigtop/bigtoplaw04.FlightChains", spec := "flightChains", unfollowed := true, recurses := true, apart := false }
def FlightChainsSaid : Prop := flightChainsRow.holds Try.pinned (OpenSpec.ofChange flightChainsSpec)

/-- ITS FALSE NEIGHBOUR: 'it returns false'. Refute it at one input. -/
def flightChainsWrong : ChangeSpec := { name := "flightChains", fn := fun _ => fun
  | [d1, d2, d3] => { results := [.lit (.bool false)], args := [d1, d2, d3] }
  | _ => none }
def FlightChainsWrongFalsely : Prop := flightChainsRow.holds Try.pinned (OpenSpec.ofChange flightChainsWrong)

/-- 'bigtoplaw04.FlightHolds': WHATEVER THE INPUT: true; the input reads as it did. -/
def flightHoldsSpec : ChangeSpec := { name := "flightHolds", fn := fun _ => fun
  | [d1, d2, d3, d4, d5] => { results := [.lit (.bool true)], args := [d1, d2, d3, d4, d5] }
  | _ => none }
def flightHoldsRow : OpenClaim := { program := "ytlehjapeomallaa", sum := "9f5275d4a2086bd70d142ba397026e38b00f82b5802bbf89731c1357746714e4", func := "bigtop/bigtoplaw04.FlightHolds", spec := "flightHolds", unfollowed := true, recurses := true, apart := false }
def FlightHoldsSaid : Prop := flightHoldsRow.holds Try.pinned (OpenSpec.ofChange flightHoldsSpec)

/-- ITS FALSE NEIGHBOUR: 'it returns false'. Refute it at one input. -/
def flightHoldsWrong : ChangeSpec := { name := "flightHolds", fn := fun _ => fun
  | [d1, d2, d3, d4, d5] => { results := [.lit (.bool false)], args := [d1, d2, d3, d4, d5] }
  | _ => none }
def FlightHoldsWrongFalsely : Prop := flightHoldsRow.holds Try.pinned (OpenSpec.ofChange flightHoldsWrong)

/-- 'bigtoplaw04.FlightWindows': WHATEVER THE INPUT: true; the input reads as it did. -/
def flightWindowsSpec : ChangeSpec := { name := "flightWindows", fn := fun _ => fun
  | [d1, d2, d3] => { results := [.lit (.bool true)], args := [d1, d2, d3] }
  | _ => none }
def flightWindowsRow : OpenClaim := { program := "ytlehjapeomallaa", sum := "9f5275d4a2086bd70d142ba397026e38b00f82b5802bbf89731c1357746714e4", func := "bigtop/bigtoplaw04.FlightWindows", spec := "flightWindows", unfollowed := true, recurses := true, apart := false }
def FlightWindowsSaid : Prop := flightWindowsRow.holds Try.pinned (OpenSpec.ofChange flightWindowsSpec)

/-- ITS FALSE NEIGHBOUR: 'it returns false'. Refute it at one input. -/
def flightWindowsWrong : ChangeSpec := { name := "flightWindows", fn := fun _ => fun
  | [d1, d2, d3] => { results := [.lit (.bool false)], args := [d1, d2, d3] }
  | _ => none }
def FlightWindowsWrongFalsely : Prop := flightWindowsRow.holds Try.pinned (OpenSpec.ofChange flightWindowsWrong)

/-- 'bigtoplaw04.FlightFollows': WHATEVER THE INPUT: true; the input reads as it did. -/
def flightFollowsSpec : ChangeSpec := { name := "flightFollows", fn := fun _ => fun
  | [d1, d2, d3] => { results := [.lit (.bool true)], args := [d1, d2, d3] }
  | _ => none }
def flightFollowsRow : OpenClaim := { program := "ytlehjapeomallaa", sum := "9f5275d4a2086bd70d142ba397026e38b00f82b5802bbf89731c1357746714e4", func := "bigtop/bigtoplaw04.FlightFollows", spec := "flightFollows", unfollowed := true, recurses := true, apart := false }
def FlightFollowsSaid : Prop := flightFollowsRow.holds Try.pinned (OpenSpec.ofChange flightFollowsSpec)

/-- ITS FALSE NEIGHBOUR: 'it returns false'. Refute it at one input. -/
def flightFollowsWrong : ChangeSpec := { name := "flightFollows", fn := fun _ => fun
  | [d1, d2, d3] => { results := [.lit (.bool false)], args := [d1, d2, d3] }
  | _ => none }
def FlightFollowsWrongFalsely : Prop := flightFollowsRow.holds Try.pinned (OpenSpec.ofChange flightFollowsWrong)

/-- 'bigtoplaw04.FlightNames': WHATEVER THE INPUT: true; the input reads as it did. -/
def flightNamesSpec : ChangeSpec := { name := "flightNames", fn := fun _ => fun
  | [] => { results := [.lit (.bool true)], args := [] }
  | _ => none }
def flightNamesRow : OpenClaim := { program := "ytlehjapeomallaa", sum := "9f5275d4a2086bd70d142ba397026e38b00f82b5802bbf89731c1357746714e4", func := "bigtop/bigtoplaw04.FlightNames", spec := "flightNames", unfollowed := true, recurses := true, apart := false }
def FlightNamesSaid : Prop := flightNamesRow.holds Try.pinned (OpenSpec.ofChange flightNamesSpec)

/-- ITS FALSE NEIGHBOUR: 'it returns false'. Refute it at one input. -/
def flightNamesWrong : ChangeSpec := { name := "flightNames", fn := fun _ => fun
  | [] => { results := [.lit (.bool false)], args := [] }
  | _ => none }
def FlightNamesWrongFalsely : Prop := flightNamesRow.holds Try.pinned (OpenSpec.ofChange flightNamesWrong)

/- THE SECOND FORM. 'bulk': how many values and letters a reading holds, each counted each time it is reached (what is shared counts as often as it is met; a slice's spare places count too). A statement '..UptoSaid' is the law's where the arguments, and the package variables that the reading takes, are together of bulk at most 1048576: NARROWER than '..Said'. Prove '..Said' where nothing that the law and all that it calls make is longer than what came in: it says more and counts as full. Else prove '..UptoSaid'. A law counts once. -/
mutual
def uptoBulk {H : Type} : DataW H → Nat
  | .lit (.string bytes) => bytes.length + 1
  | .lit _ => 1
  | .nil => 1
  | .ptr d => uptoBulk d + 1
  | .slice elems spare => uptoBulkAll elems + uptoBulkAll spare + 1
  | .agg parts => uptoBulkAll parts + 1
  | .iface _ d => uptoBulk d + 1
  | .map entries => uptoBulkEntries entries + 1
  | .held _ => 1
def uptoBulkAll {H : Type} : List (DataW H) → Nat
  | [] => 0
  | d :: r => uptoBulk d + uptoBulkAll r
def uptoBulkEntries {H : Type} : List (Lit × DataW H) → Nat
  | [] => 0
  | x :: r => uptoBulkEntry x + uptoBulkEntries r
def uptoBulkEntry {H : Type} : Lit × DataW H → Nat
  | (.string bytes, d) => bytes.length + uptoBulk d + 1
  | (_, d) => uptoBulk d + 1
 end
def uptoSmall : (H : Type) → List (DataW H) → Bool := fun _ ds => decide (uptoBulkAll ds ≤ 1048576)
def OpenSpec.upto (s : _root_.Go.ChangeSpec) : _root_.Go.OpenSpec := { _root_.Go.OpenSpec.ofChange s with cond := some uptoSmall }

/-- 'bigtoplaw04.FlightSwings', WHERE WHAT IT READS IS OF BULK AT MOST 1048576: true; the input reads as it did. -/
def flightSwingsUptoRow : OpenClaim := { program := "ytlehjapeomallaa", sum := "9f5275d4a2086bd70d142ba397026e38b00f82b5802bbf89731c1357746714e4", func := "bigtop/bigtoplaw04.FlightSwings", spec := "flightSwings", unfollowed := true, recurses := true, apart := false, narrowed := true }
def FlightSwingsUptoSaid : Prop := flightSwingsUptoRow.holds Try.pinned (OpenSpec.upto flightSwingsSpec)

/-- 'bigtoplaw04.FlightCatches', WHERE WHAT IT READS IS OF BULK AT MOST 1048576: true; the input reads as it did. -/
def flightCatchesUptoRow : OpenClaim := { program := "ytlehjapeomallaa", sum := "9f5275d4a2086bd70d142ba397026e38b00f82b5802bbf89731c1357746714e4", func := "bigtop/bigtoplaw04.FlightCatches", spec := "flightCatches", unfollowed := true, recurses := true, apart := false, narrowed := true }
def FlightCatchesUptoSaid : Prop := flightCatchesUptoRow.holds Try.pinned (OpenSpec.upto flightCatchesSpec)

/-- 'bigtoplaw04.FlightSure', WHERE WHAT IT READS IS OF BULK AT MOST 1048576: true; the input reads as it did. -/
def flightSureUptoRow : OpenClaim := { program := "ytlehjapeomallaa", sum := "9f5275d4a2086bd70d142ba397026e38b00f82b5802bbf89731c1357746714e4", func := "bigtop/bigtoplaw04.FlightSure", spec := "flightSure", unfollowed := true, recurses := true, apart := false, narrowed := true }
def FlightSureUptoSaid : Prop := flightSureUptoRow.holds Try.pinned (OpenSpec.upto flightSureSpec)

/-- 'bigtoplaw04.FlightCycles', WHERE WHAT IT READS IS OF BULK AT MOST 1048576: true; the input reads as it did. -/
def flightCyclesUptoRow : OpenClaim := { program := "ytlehjapeomallaa", sum := "9f5275d4a2086bd70d142ba397026e38b00f82b5802bbf89731c1357746714e4", func := "bigtop/bigtoplaw04.FlightCycles", spec := "flightCycles", unfollowed := true, recurses := true, apart := false, narrowed := true }
def FlightCyclesUptoSaid : Prop := flightCyclesUptoRow.holds Try.pinned (OpenSpec.upto flightCyclesSpec)

/-- 'bigtoplaw04.FlightSteady', WHERE WHAT IT READS IS OF BULK AT MOST 1048576: true; the input reads as it did. -/
def flightSteadyUptoRow : OpenClaim := { program := "ytlehjapeomallaa", sum := "9f5275d4a2086bd70d142ba397026e38b00f82b5802bbf89731c1357746714e4", func := "bigtop/bigtoplaw04.FlightSteady", spec := "flightSteady", unfollowed := true, recurses := true, apart := false, narrowed := true }
def FlightSteadyUptoSaid : Prop := flightSteadyUptoRow.holds Try.pinned (OpenSpec.upto flightSteadySpec)

/-- 'bigtoplaw04.FlightPendulums', WHERE WHAT IT READS IS OF BULK AT MOST 1048576: true; the input reads as it did. -/
def flightPendulumsUptoRow : OpenClaim := { program := "ytlehjapeomallaa", sum := "9f5275d4a2086bd70d142ba397026e38b00f82b5802bbf89731c1357746714e4", func := "bigtop/bigtoplaw04.FlightPendulums", spec := "flightPendulums", unfollowed := true, recurses := true, apart := false, narrowed := true }
def FlightPendulumsUptoSaid : Prop := flightPendulumsUptoRow.holds Try.pinned (OpenSpec.upto flightPendulumsSpec)

/-- 'bigtoplaw04.FlightLands', WHERE WHAT IT READS IS OF BULK AT MOST 1048576: true; the input reads as it did. -/
def flightLandsUptoRow : OpenClaim := { program := "ytlehjapeomallaa", sum := "9f5275d4a2086bd70d142ba397026e38b00f82b5802bbf89731c1357746714e4", func := "bigtop/bigtoplaw04.FlightLands", spec := "flightLands", unfollowed := true, recurses := true, apart := false, narrowed := true }
def FlightLandsUptoSaid : Prop := flightLandsUptoRow.holds Try.pinned (OpenSpec.upto flightLandsSpec)

/-- 'bigtoplaw04.FlightNetted', WHERE WHAT IT READS IS OF BULK AT MOST 1048576: true; the input reads as it did. -/
def flightNettedUptoRow : OpenClaim := { program := "ytlehjapeomallaa", sum := "9f5275d4a2086bd70d142ba397026e38b00f82b5802bbf89731c1357746714e4", func := "bigtop/bigtoplaw04.FlightNetted", spec := "flightNetted", unfollowed := true, recurses := true, apart := false, narrowed := true }
def FlightNettedUptoSaid : Prop := flightNettedUptoRow.holds Try.pinned (OpenSpec.upto flightNettedSpec)

/-- 'bigtoplaw04.FlightMoves', WHERE WHAT IT READS IS OF BULK AT MOST 1048576: true; the input reads as it did. -/
def flightMovesUptoRow : OpenClaim := { program := "ytlehjapeomallaa", sum := "9f5275d4a2086bd70d142ba397026e38b00f82b5802bbf89731c1357746714e4", func := "bigtop/bigtoplaw04.FlightMoves", spec := "flightMoves", unfollowed := true, recurses := true, apart := false, narrowed := true }
def FlightMovesUptoSaid : Prop := flightMovesUptoRow.holds Try.pinned (OpenSpec.upto flightMovesSpec)

/-- 'bigtoplaw04.FlightProves', WHERE WHAT IT READS IS OF BULK AT MOST 1048576: true; the input reads as it did. -/
def flightProvesUptoRow : OpenClaim := { program := "ytlehjapeomallaa", sum := "9f5275d4a2086bd70d142ba397026e38b00f82b5802bbf89731c1357746714e4", func := "bigtop/bigtoplaw04.FlightProves", spec := "flightProves", unfollowed := true, recurses := true, apart := false, narrowed := true }
def FlightProvesUptoSaid : Prop := flightProvesUptoRow.holds Try.pinned (OpenSpec.upto flightProvesSpec)

/-- 'bigtoplaw04.FlightChains', WHERE WHAT IT READS IS OF BULK AT MOST 1048576: true; the input reads as it did. -/
def flightChainsUptoRow : OpenClaim := { program := "ytlehjapeomallaa", sum := "9f5275d4a2086bd70d142ba397026e38b00f82b5802bbf89731c1357746714e4", func := "bigtop/bigtoplaw04.FlightChains", spec := "flightChains", unfollowed := true, recurses := true, apart := false, narrowed := true }
def FlightChainsUptoSaid : Prop := flightChainsUptoRow.holds Try.pinned (OpenSpec.upto flightChainsSpec)

/-- 'bigtoplaw04.FlightHolds', WHERE WHAT IT READS IS OF BULK AT MOST 1048576: true; the input reads as it did. -/
def flightHoldsUptoRow : OpenClaim := { program := "ytlehjapeomallaa", sum := "9f5275d4a2086bd70d142ba397026e38b00f82b5802bbf89731c1357746714e4", func := "bigtop/bigtoplaw04.FlightHolds", spec := "flightHolds", unfollowed := true, recurses := true, apart := false, narrowed := true }
def FlightHoldsUptoSaid : Prop := flightHoldsUptoRow.holds Try.pinned (OpenSpec.upto flightHoldsSpec)

/-- 'bigtoplaw04.FlightWindows', WHERE WHAT IT READS IS OF BULK AT MOST 1048576: true; the input reads as it did. -/
def flightWindowsUptoRow : OpenClaim := { program := "ytlehjapeomallaa", sum := "9f5275d4a2086bd70d142ba397026e38b00f82b5802bbf89731c1357746714e4", func := "bigtop/bigtoplaw04.FlightWindows", spec := "flightWindows", unfollowed := true, recurses := true, apart := false, narrowed := true }
def FlightWindowsUptoSaid : Prop := flightWindowsUptoRow.holds Try.pinned (OpenSpec.upto flightWindowsSpec)

/-- 'bigtoplaw04.FlightFollows', WHERE WHAT IT READS IS OF BULK AT MOST 1048576: true; the input reads as it did. -/
def flightFollowsUptoRow : OpenClaim := { program := "ytlehjapeomallaa", sum := "9f5275d4a2086bd70d142ba397026e38b00f82b5802bbf89731c1357746714e4", func := "bigtop/bigtoplaw04.FlightFollows", spec := "flightFollows", unfollowed := true, recurses := true, apart := false, narrowed := true }
def FlightFollowsUptoSaid : Prop := flightFollowsUptoRow.holds Try.pinned (OpenSpec.upto flightFollowsSpec)

/-- 'bigtoplaw04.FlightNames', WHERE WHAT IT READS IS OF BULK AT MOST 1048576: true; the input reads as it did. -/
def flightNamesUptoRow : OpenClaim := { program := "ytlehjapeomallaa", sum := "9f5275d4a2086bd70d142ba397026e38b00f82b5802bbf89731c1357746714e4", func := "bigtop/bigtoplaw04.FlightNames", spec := "flightNames", unfollowed := true, recurses := true, apart := false, narrowed := true }
def FlightNamesUptoSaid : Prop := flightNamesUptoRow.holds Try.pinned (OpenSpec.upto flightNamesSpec)

end Rows
end Go.Proofs.Ytlehjapeomallaa
