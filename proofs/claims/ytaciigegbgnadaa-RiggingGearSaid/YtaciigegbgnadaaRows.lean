/-
  No cell of these rows narrows 'for every input' (looked for: loops, veiled, ifaces, maps, wideKeys, modest, calm, conditions, laid).
  DERIVED. THE GIVEN ROWS OF THIS SEAT. 13 by the template 'for every input the law returns true; each argument reads behind the call as it read before'; 0 by the template 'total and deterministic' (their statements: YtaciigegbgnadaaTotals.lean).
  GIVEN WITH THE SEED: the statements are not yours to turn. If you find one false, say at which input.
  Laid BY PROGRAM, IN A SANDBOX (cutbox-rows.mjs): the forced cells as the released guide's own fill.sh prints them over the translation cfc1251e62154b79… (all of the seat's roots in one cut). By AI agents, Wed Nov 11 2026. No macro, syntax, notation, axiom, sorry.
-/
import Derived.Test.YtaciigegbgnadaaChecked
import GoSem.Claim
import GoSem.ClaimJoined
import GoSem.ClaimMapViews
import Derived.JoinedTies
import Derived.KernelRfl
namespace Go.Proofs.Ytaciigegbgnadaa
/- THE CELL 'sum', in the pinned program and in every row, IS THE sha256 OF THE DUMP (.gsa) THAT YtaciigegbgnadaaProg.lean LOADS. Nothing in Lean hashes anything: it is a label: what it is worth is what the hold of that sum in a sandbox is worth. -/
noncomputable def Try.pinned : Pinned := { name := "ytaciigegbgnadaa", sum := "cfc1251e62154b792f4a0abfedc2159c4039ae79d1b344415bc43186317c9767", checked := Try.checked }
namespace Rows
def none {H : Type} : Left H := { results := [], args := [] }

/-- 'bigtoplaw03.RiggingLogs': WHATEVER THE INPUT: true; the input reads as it did. -/
def riggingLogsSpec : ChangeSpec := { name := "riggingLogs", fn := fun _ => fun
  | [d1, d2, d3, d4, d5] => { results := [.lit (.bool true)], args := [d1, d2, d3, d4, d5] }
  | _ => none }
def riggingLogsRow : OpenClaim := { program := "ytaciigegbgnadaa", sum := "cfc1251e62154b792f4a0abfedc2159c4039ae79d1b344415bc43186317c9767", func := "bigtop/bigtoplaw03.RiggingLogs", spec := "riggingLogs", unfollowed := true, recurses := true, apart := false }
def RiggingLogsSaid : Prop := riggingLogsRow.holds Try.pinned (OpenSpec.ofChange riggingLogsSpec)

/-- ITS FALSE NEIGHBOUR: 'it returns false'. Refute it at one input. -/
def riggingLogsWrong : ChangeSpec := { name := "riggingLogs", fn := fun _ => fun
  | [d1, d2, d3, d4, d5] => { results := [.lit (.bool false)], args := [d1, d2, d3, d4, d5] }
  | _ => none }
def RiggingLogsWrongFalsely : Prop := riggingLogsRow.holds Try.pinned (OpenSpec.ofChange riggingLogsWrong)

/-- 'bigtoplaw03.RiggingAll': WHATEVER THE INPUT: true; the input reads as it did. -/
def riggingAllSpec : ChangeSpec := { name := "riggingAll", fn := fun _ => fun
  | [d1, d2] => { results := [.lit (.bool true)], args := [d1, d2] }
  | _ => none }
def riggingAllRow : OpenClaim := { program := "ytaciigegbgnadaa", sum := "cfc1251e62154b792f4a0abfedc2159c4039ae79d1b344415bc43186317c9767", func := "bigtop/bigtoplaw03.RiggingAll", spec := "riggingAll", unfollowed := true, recurses := true, apart := false }
def RiggingAllSaid : Prop := riggingAllRow.holds Try.pinned (OpenSpec.ofChange riggingAllSpec)

/-- ITS FALSE NEIGHBOUR: 'it returns false'. Refute it at one input. -/
def riggingAllWrong : ChangeSpec := { name := "riggingAll", fn := fun _ => fun
  | [d1, d2] => { results := [.lit (.bool false)], args := [d1, d2] }
  | _ => none }
def RiggingAllWrongFalsely : Prop := riggingAllRow.holds Try.pinned (OpenSpec.ofChange riggingAllWrong)

/-- 'bigtoplaw03.RiggingLevers': WHATEVER THE INPUT: true; the input reads as it did. -/
def riggingLeversSpec : ChangeSpec := { name := "riggingLevers", fn := fun _ => fun
  | [d1, d2, d3, d4, d5] => { results := [.lit (.bool true)], args := [d1, d2, d3, d4, d5] }
  | _ => none }
def riggingLeversRow : OpenClaim := { program := "ytaciigegbgnadaa", sum := "cfc1251e62154b792f4a0abfedc2159c4039ae79d1b344415bc43186317c9767", func := "bigtop/bigtoplaw03.RiggingLevers", spec := "riggingLevers", unfollowed := true, recurses := true, apart := false }
def RiggingLeversSaid : Prop := riggingLeversRow.holds Try.pinned (OpenSpec.ofChange riggingLeversSpec)

/-- ITS FALSE NEIGHBOUR: 'it returns false'. Refute it at one input. -/
def riggingLeversWrong : ChangeSpec := { name := "riggingLevers", fn := fun _ => fun
  | [d1, d2, d3, d4, d5] => { results := [.lit (.bool false)], args := [d1, d2, d3, d4, d5] }
  | _ => none }
def RiggingLeversWrongFalsely : Prop := riggingLeversRow.holds Try.pinned (OpenSpec.ofChange riggingLeversWrong)

/-- 'bigtoplaw03.RiggingGear': WHATEVER THE INPUT: true; the input reads as it did. -/
def riggingGearSpec : ChangeSpec := { name := "riggingGear", fn := fun _ => fun
  | [d1, d2, d3, d4, d5, d6] => { results := [.lit (.bool true)], args := [d1, d2, d3, d4, d5, d6] }
  | _ => none }
def riggingGearRow : OpenClaim := { program := "ytaciigegbgnadaa", sum := "cfc1251e62154b792f4a0abfedc2159c4039ae79d1b344415bc43186317c9767", func := "bigtop/bigtoplaw03.RiggingGear", spec := "riggingGear", unfollowed := true, recurses := true, apart := false }
def RiggingGearSaid : Prop := riggingGearRow.holds Try.pinned (OpenSpec.ofChange riggingGearSpec)

/-- ITS FALSE NEIGHBOUR: 'it returns false'. Refute it at one input. -/
def riggingGearWrong : ChangeSpec := { name := "riggingGear", fn := fun _ => fun
  | [d1, d2, d3, d4, d5, d6] => { results := [.lit (.bool false)], args := [d1, d2, d3, d4, d5, d6] }
  | _ => none }
def RiggingGearWrongFalsely : Prop := riggingGearRow.holds Try.pinned (OpenSpec.ofChange riggingGearWrong)

/-- 'bigtoplaw03.RiggingBears': WHATEVER THE INPUT: true; the input reads as it did. -/
def riggingBearsSpec : ChangeSpec := { name := "riggingBears", fn := fun _ => fun
  | [d1, d2] => { results := [.lit (.bool true)], args := [d1, d2] }
  | _ => none }
def riggingBearsRow : OpenClaim := { program := "ytaciigegbgnadaa", sum := "cfc1251e62154b792f4a0abfedc2159c4039ae79d1b344415bc43186317c9767", func := "bigtop/bigtoplaw03.RiggingBears", spec := "riggingBears", unfollowed := true, recurses := true, apart := false }
def RiggingBearsSaid : Prop := riggingBearsRow.holds Try.pinned (OpenSpec.ofChange riggingBearsSpec)

/-- ITS FALSE NEIGHBOUR: 'it returns false'. Refute it at one input. -/
def riggingBearsWrong : ChangeSpec := { name := "riggingBears", fn := fun _ => fun
  | [d1, d2] => { results := [.lit (.bool false)], args := [d1, d2] }
  | _ => none }
def RiggingBearsWrongFalsely : Prop := riggingBearsRow.holds Try.pinned (OpenSpec.ofChange riggingBearsWrong)

/-- 'bigtoplaw03.RiggingRanges': WHATEVER THE INPUT: true; the input reads as it did. -/
def riggingRangesSpec : ChangeSpec := { name := "riggingRanges", fn := fun _ => fun
  | [d] => { results := [.lit (.bool true)], args := [d] }
  | _ => none }
def riggingRangesRow : OpenClaim := { program := "ytaciigegbgnadaa", sum := "cfc1251e62154b792f4a0abfedc2159c4039ae79d1b344415bc43186317c9767", func := "bigtop/bigtoplaw03.RiggingRanges", spec := "riggingRanges", unfollowed := true, recurses := true, apart := false }
def RiggingRangesSaid : Prop := riggingRangesRow.holds Try.pinned (OpenSpec.ofChange riggingRangesSpec)

/-- ITS FALSE NEIGHBOUR: 'it returns false'. Refute it at one input. -/
def riggingRangesWrong : ChangeSpec := { name := "riggingRanges", fn := fun _ => fun
  | [d] => { results := [.lit (.bool false)], args := [d] }
  | _ => none }
def RiggingRangesWrongFalsely : Prop := riggingRangesRow.holds Try.pinned (OpenSpec.ofChange riggingRangesWrong)

/-- 'bigtoplaw03.RiggingWeak': WHATEVER THE INPUT: true; the input reads as it did. -/
def riggingWeakSpec : ChangeSpec := { name := "riggingWeak", fn := fun _ => fun
  | [d] => { results := [.lit (.bool true)], args := [d] }
  | _ => none }
def riggingWeakRow : OpenClaim := { program := "ytaciigegbgnadaa", sum := "cfc1251e62154b792f4a0abfedc2159c4039ae79d1b344415bc43186317c9767", func := "bigtop/bigtoplaw03.RiggingWeak", spec := "riggingWeak", unfollowed := true, recurses := true, apart := false }
def RiggingWeakSaid : Prop := riggingWeakRow.holds Try.pinned (OpenSpec.ofChange riggingWeakSpec)

/-- ITS FALSE NEIGHBOUR: 'it returns false'. Refute it at one input. -/
def riggingWeakWrong : ChangeSpec := { name := "riggingWeak", fn := fun _ => fun
  | [d] => { results := [.lit (.bool false)], args := [d] }
  | _ => none }
def RiggingWeakWrongFalsely : Prop := riggingWeakRow.holds Try.pinned (OpenSpec.ofChange riggingWeakWrong)

/-- 'bigtoplaw03.RiggingEncloses': WHATEVER THE INPUT: true; the input reads as it did. -/
def riggingEnclosesSpec : ChangeSpec := { name := "riggingEncloses", fn := fun _ => fun
  | [d1, d2, d3] => { results := [.lit (.bool true)], args := [d1, d2, d3] }
  | _ => none }
def riggingEnclosesRow : OpenClaim := { program := "ytaciigegbgnadaa", sum := "cfc1251e62154b792f4a0abfedc2159c4039ae79d1b344415bc43186317c9767", func := "bigtop/bigtoplaw03.RiggingEncloses", spec := "riggingEncloses", unfollowed := true, recurses := true, apart := false }
def RiggingEnclosesSaid : Prop := riggingEnclosesRow.holds Try.pinned (OpenSpec.ofChange riggingEnclosesSpec)

/-- ITS FALSE NEIGHBOUR: 'it returns false'. Refute it at one input. -/
def riggingEnclosesWrong : ChangeSpec := { name := "riggingEncloses", fn := fun _ => fun
  | [d1, d2, d3] => { results := [.lit (.bool false)], args := [d1, d2, d3] }
  | _ => none }
def RiggingEnclosesWrongFalsely : Prop := riggingEnclosesRow.holds Try.pinned (OpenSpec.ofChange riggingEnclosesWrong)

/-- 'bigtoplaw03.RiggingWitness': WHATEVER THE INPUT: true; the input reads as it did. -/
def riggingWitnessSpec : ChangeSpec := { name := "riggingWitness", fn := fun _ => fun
  | [d1, d2] => { results := [.lit (.bool true)], args := [d1, d2] }
  | _ => none }
def riggingWitnessRow : OpenClaim := { program := "ytaciigegbgnadaa", sum := "cfc1251e62154b792f4a0abfedc2159c4039ae79d1b344415bc43186317c9767", func := "bigtop/bigtoplaw03.RiggingWitness", spec := "riggingWitness", unfollowed := true, recurses := true, apart := false }
def RiggingWitnessSaid : Prop := riggingWitnessRow.holds Try.pinned (OpenSpec.ofChange riggingWitnessSpec)

/-- ITS FALSE NEIGHBOUR: 'it returns false'. Refute it at one input. -/
def riggingWitnessWrong : ChangeSpec := { name := "riggingWitness", fn := fun _ => fun
  | [d1, d2] => { results := [.lit (.bool false)], args := [d1, d2] }
  | _ => none }
def RiggingWitnessWrongFalsely : Prop := riggingWitnessRow.holds Try.pinned (OpenSpec.ofChange riggingWitnessWrong)

/-- 'bigtoplaw03.RiggingHeavier': WHATEVER THE INPUT: true; the input reads as it did. -/
def riggingHeavierSpec : ChangeSpec := { name := "riggingHeavier", fn := fun _ => fun
  | [d1, d2, d3, d4] => { results := [.lit (.bool true)], args := [d1, d2, d3, d4] }
  | _ => none }
def riggingHeavierRow : OpenClaim := { program := "ytaciigegbgnadaa", sum := "cfc1251e62154b792f4a0abfedc2159c4039ae79d1b344415bc43186317c9767", func := "bigtop/bigtoplaw03.RiggingHeavier", spec := "riggingHeavier", unfollowed := true, recurses := true, apart := false }
def RiggingHeavierSaid : Prop := riggingHeavierRow.holds Try.pinned (OpenSpec.ofChange riggingHeavierSpec)

/-- ITS FALSE NEIGHBOUR: 'it returns false'. Refute it at one input. -/
def riggingHeavierWrong : ChangeSpec := { name := "riggingHeavier", fn := fun _ => fun
  | [d1, d2, d3, d4] => { results := [.lit (.bool false)], args := [d1, d2, d3, d4] }
  | _ => none }
def RiggingHeavierWrongFalsely : Prop := riggingHeavierRow.holds Try.pinned (OpenSpec.ofChange riggingHeavierWrong)

/-- 'bigtoplaw03.RiggingRooms': WHATEVER THE INPUT: true; the input reads as it did. -/
def riggingRoomsSpec : ChangeSpec := { name := "riggingRooms", fn := fun _ => fun
  | [d1, d2, d3] => { results := [.lit (.bool true)], args := [d1, d2, d3] }
  | _ => none }
def riggingRoomsRow : OpenClaim := { program := "ytaciigegbgnadaa", sum := "cfc1251e62154b792f4a0abfedc2159c4039ae79d1b344415bc43186317c9767", func := "bigtop/bigtoplaw03.RiggingRooms", spec := "riggingRooms", unfollowed := true, recurses := true, apart := false }
def RiggingRoomsSaid : Prop := riggingRoomsRow.holds Try.pinned (OpenSpec.ofChange riggingRoomsSpec)

/-- ITS FALSE NEIGHBOUR: 'it returns false'. Refute it at one input. -/
def riggingRoomsWrong : ChangeSpec := { name := "riggingRooms", fn := fun _ => fun
  | [d1, d2, d3] => { results := [.lit (.bool false)], args := [d1, d2, d3] }
  | _ => none }
def RiggingRoomsWrongFalsely : Prop := riggingRoomsRow.holds Try.pinned (OpenSpec.ofChange riggingRoomsWrong)

/-- 'bigtoplaw03.RiggingRoom': WHATEVER THE INPUT: true; the input reads as it did. -/
def riggingRoomSpec : ChangeSpec := { name := "riggingRoom", fn := fun _ => fun
  | [d1, d2, d3] => { results := [.lit (.bool true)], args := [d1, d2, d3] }
  | _ => none }
def riggingRoomRow : OpenClaim := { program := "ytaciigegbgnadaa", sum := "cfc1251e62154b792f4a0abfedc2159c4039ae79d1b344415bc43186317c9767", func := "bigtop/bigtoplaw03.RiggingRoom", spec := "riggingRoom", unfollowed := true, recurses := true, apart := false }
def RiggingRoomSaid : Prop := riggingRoomRow.holds Try.pinned (OpenSpec.ofChange riggingRoomSpec)

/-- ITS FALSE NEIGHBOUR: 'it returns false'. Refute it at one input. -/
def riggingRoomWrong : ChangeSpec := { name := "riggingRoom", fn := fun _ => fun
  | [d1, d2, d3] => { results := [.lit (.bool false)], args := [d1, d2, d3] }
  | _ => none }
def RiggingRoomWrongFalsely : Prop := riggingRoomRow.holds Try.pinned (OpenSpec.ofChange riggingRoomWrong)

/-- 'bigtoplaw03.RiggingNames': WHATEVER THE INPUT: true; the input reads as it did. -/
def riggingNamesSpec : ChangeSpec := { name := "riggingNames", fn := fun _ => fun
  | [] => { results := [.lit (.bool true)], args := [] }
  | _ => none }
def riggingNamesRow : OpenClaim := { program := "ytaciigegbgnadaa", sum := "cfc1251e62154b792f4a0abfedc2159c4039ae79d1b344415bc43186317c9767", func := "bigtop/bigtoplaw03.RiggingNames", spec := "riggingNames", unfollowed := true, recurses := true, apart := false }
def RiggingNamesSaid : Prop := riggingNamesRow.holds Try.pinned (OpenSpec.ofChange riggingNamesSpec)

/-- ITS FALSE NEIGHBOUR: 'it returns false'. Refute it at one input. -/
def riggingNamesWrong : ChangeSpec := { name := "riggingNames", fn := fun _ => fun
  | [] => { results := [.lit (.bool false)], args := [] }
  | _ => none }
def RiggingNamesWrongFalsely : Prop := riggingNamesRow.holds Try.pinned (OpenSpec.ofChange riggingNamesWrong)

/- THE SECOND FORM. 'bulk': how many values and letters a reading holds, each counted each time it is reached (what is shared counts as often as it is met; a slice's spare places count too). A statement '..UptoSaid' is the law's where the arguments, and the package variables that the reading takes, are together of bulk at most 1048576: NARROWER than '..Said'. Prove '..Said' where nothing that the law and all that it calls make is longer than what came in: it says more and counts as full. Else prove '..UptoSaid'. A law counts once. -/
mutual
def uptoBulk {H : Type} : DataW H → Nat
  | .lit (.string bytes) => bytes.length + 1
  | .lit _ => 1
  | .nil => 1
  | .ptr d => uptoBulk d + 1
  | .slice elems spare => uptoBulkAll elems + uptoBulkAll spare + 1
  | .agg parts => uptoBulkAll parts + 1
  | .iface _ d => uptoBulk d + 1
  | .map entries => uptoBulkEntries entries + 1
  | .held _ => 1
def uptoBulkAll {H : Type} : List (DataW H) → Nat
  | [] => 0
  | d :: r => uptoBulk d + uptoBulkAll r
def uptoBulkEntries {H : Type} : List (Lit × DataW H) → Nat
  | [] => 0
  | x :: r => uptoBulkEntry x + uptoBulkEntries r
def uptoBulkEntry {H : Type} : Lit × DataW H → Nat
  | (.string bytes, d) => bytes.length + uptoBulk d + 1
  | (_, d) => uptoBulk d + 1
 end
def uptoSmall : (H : Type) → List (DataW H) → Bool := fun _ ds => decide (uptoBulkAll ds ≤ 1048576)
def OpenSpec.upto (s : _root_.Go.ChangeSpec) : _root_.Go.OpenSpec := { _root_.Go.OpenSpec.ofChange s with cond := some uptoSmall }

/-- 'bigtoplaw03.RiggingLogs', WHERE WHAT IT READS IS OF BULK AT MOST 1048576: true; the input reads as it did. -/
def riggingLogsUptoRow : OpenClaim := { program := "ytaciigegbgnadaa", sum := "cfc1251e62154b792f4a0abfedc2159c4039ae79d1b344415bc43186317c9767", func := "bigtop/bigtoplaw03.RiggingLogs", spec := "riggingLogs", unfollowed := true, recurses := true, apart := false, narrowed := true }
def RiggingLogsUptoSaid : Prop := riggingLogsUptoRow.holds Try.pinned (OpenSpec.upto riggingLogsSpec)

/-- 'bigtoplaw03.RiggingAll', WHERE WHAT IT READS IS OF BULK AT MOST 1048576: true; the input reads as it did. -/
def riggingAllUptoRow : OpenClaim := { program := "ytaciigegbgnadaa", sum := "cfc1251e62154b792f4a0abfedc2159c4039ae79d1b344415bc43186317c9767", func := "bigtop/bigtoplaw03.RiggingAll", spec := "riggingAll", unfollowed := true, recurses := true, apart := false, narrowed := true }
def RiggingAllUptoSaid : Prop := riggingAllUptoRow.holds Try.pinned (OpenSpec.upto riggingAllSpec)

/-- 'bigtoplaw03.RiggingLevers', WHERE WHAT IT READS IS OF BULK AT MOST 1048576: true; the input reads as it did. -/
def riggingLeversUptoRow : OpenClaim := { program := "ytaciigegbgnadaa", sum := "cfc1251e62154b792f4a0abfedc2159c4039ae79d1b344415bc43186317c9767", func := "bigtop/bigtoplaw03.RiggingLevers", spec := "riggingLevers", unfollowed := true, recurses := true, apart := false, narrowed := true }
def RiggingLeversUptoSaid : Prop := riggingLeversUptoRow.holds Try.pinned (OpenSpec.upto riggingLeversSpec)

/-- 'bigtoplaw03.RiggingGear', WHERE WHAT IT READS IS OF BULK AT MOST 1048576: true; the input reads as it did. -/
def riggingGearUptoRow : OpenClaim := { program := "ytaciigegbgnadaa", sum := "cfc1251e62154b792f4a0abfedc2159c4039ae79d1b344415bc43186317c9767", func := "bigtop/bigtoplaw03.RiggingGear", spec := "riggingGear", unfollowed := true, recurses := true, apart := false, narrowed := true }
def RiggingGearUptoSaid : Prop := riggingGearUptoRow.holds Try.pinned (OpenSpec.upto riggingGearSpec)

/-- 'bigtoplaw03.RiggingBears', WHERE WHAT IT READS IS OF BULK AT MOST 1048576: true; the input reads as it did. -/
def riggingBearsUptoRow : OpenClaim := { program := "ytaciigegbgnadaa", sum := "cfc1251e62154b792f4a0abfedc2159c4039ae79d1b344415bc43186317c9767", func := "bigtop/bigtoplaw03.RiggingBears", spec := "riggingBears", unfollowed := true, recurses := true, apart := false, narrowed := true }
def RiggingBearsUptoSaid : Prop := riggingBearsUptoRow.holds Try.pinned (OpenSpec.upto riggingBearsSpec)

/-- 'bigtoplaw03.RiggingRanges', WHERE WHAT IT READS IS OF BULK AT MOST 1048576: true; the input reads as it did. -/
def riggingRangesUptoRow : OpenClaim := { program := "ytaciigegbgnadaa", sum := "cfc1251e62154b792f4a0abfedc2159c4039ae79d1b344415bc43186317c9767", func := "bigtop/bigtoplaw03.RiggingRanges", spec := "riggingRanges", unfollowed := true, recurses := true, apart := false, narrowed := true }
def RiggingRangesUptoSaid : Prop := riggingRangesUptoRow.holds Try.pinned (OpenSpec.upto riggingRangesSpec)

/-- 'bigtoplaw03.RiggingWeak', WHERE WHAT IT READS IS OF BULK AT MOST 1048576: true; the input reads as it did. -/
def riggingWeakUptoRow : OpenClaim := { program := "ytaciigegbgnadaa", sum := "cfc1251e62154b792f4a0abfedc2159c4039ae79d1b344415bc43186317c9767", func := "bigtop/bigtoplaw03.RiggingWeak", spec := "riggingWeak", unfollowed := true, recurses := true, apart := false, narrowed := true }
def RiggingWeakUptoSaid : Prop := riggingWeakUptoRow.holds Try.pinned (OpenSpec.upto riggingWeakSpec)

/-- 'bigtoplaw03.RiggingEncloses', WHERE WHAT IT READS IS OF BULK AT MOST 1048576: true; the input reads as it did. -/
def riggingEnclosesUptoRow : OpenClaim := { program := "ytaciigegbgnadaa", sum := "cfc1251e62154b792f4a0abfedc2159c4039ae79d1b344415bc43186317c9767", func := "bigtop/bigtoplaw03.RiggingEncloses", spec := "riggingEncloses", unfollowed := true, recurses := true, apart := false, narrowed := true }
def RiggingEnclosesUptoSaid : Prop := riggingEnclosesUptoRow.holds Try.pinned (OpenSpec.upto riggingEnclosesSpec)

/-- 'bigtoplaw03.RiggingWitness', WHERE WHAT IT READS IS OF BULK AT MOST 1048576: true; the input reads as it did. -/
def riggingWitnessUptoRow : OpenClaim := { program := "ytaciigegbgnadaa", sum := "cfc1251e62154b792f4a0abfedc2159c4039ae79d1b344415bc43186317c9767", func := "bigtop/bigtoplaw03.RiggingWitness", spec := "riggingWitness", unfollowed := true, recurses := true, apart := false, narrowed := true }
def RiggingWitnessUptoSaid : Prop := riggingWitnessUptoRow.holds Try.pinned (OpenSpec.upto riggingWitnessSpec)

/-- 'bigtoplaw03.RiggingHeavier', WHERE WHAT IT READS IS OF BULK AT MOST 1048576: true; the input reads as it did. -/
def riggingHeavierUptoRow : OpenClaim := { program := "ytaciigegbgnadaa", sum := "cfc1251e62154b792f4a0abfedc2159c4039ae79d1b344415bc43186317c9767", func := "bigtop/bigtoplaw03.RiggingHeavier", spec := "riggingHeavier", unfollowed := true, recurses := true, apart := false, narrowed := true }
def RiggingHeavierUptoSaid : Prop := riggingHeavierUptoRow.holds Try.pinned (OpenSpec.upto riggingHeavierSpec)

/-- 'bigtoplaw03.RiggingRooms', WHERE WHAT IT READS IS OF BULK AT MOST 1048576: true; the input reads as it did. -/
def riggingRoomsUptoRow : OpenClaim := { program := "ytaciigegbgnadaa", sum := "cfc1251e62154b792f4a0abfedc2159c4039ae79d1b344415bc43186317c9767", func := "bigtop/bigtoplaw03.RiggingRooms", spec := "riggingRooms", unfollowed := true, recurses := true, apart := false, narrowed := true }
def RiggingRoomsUptoSaid : Prop := riggingRoomsUptoRow.holds Try.pinned (OpenSpec.upto riggingRoomsSpec)

/-- 'bigtoplaw03.RiggingRoom', WHERE WHAT IT READS IS OF BULK AT MOST 1048576: true; the input reads as it did. -/
def riggingRoomUptoRow : OpenClaim := { program := "ytaciigegbgnadaa", sum := "cfc1251e62154b792f4a0abfedc2159c4039ae79d1b344415bc43186317c9767", func := "bigtop/bigtoplaw03.RiggingRoom", spec := "riggingRoom", unfollowed := true, recurses := true, apart := false, narrowed := true }
def RiggingRoomUptoSaid : Prop := riggingRoomUptoRow.holds Try.pinned (OpenSpec.upto riggingRoomSpec)

/-- 'bigtoplaw03.RiggingNames', WHERE WHAT IT READS IS OF BULK AT MOST 1048576: true; the input reads as it did. -/
def riggingNamesUptoRow : OpenClaim := { program := "ytaciigegbgnadaa", sum := "cfc1251e62154b792f4a0abfedc2159c4039ae79d1b344415bc43186317c9767", func := "bigtop/bigtoplaw03.RiggingNames", spec := "riggingNames", unfollowed := true, recurses := true, apart := false, narrowed := true }
def RiggingNamesUptoSaid : Prop := riggingNamesUptoRow.holds Try.pinned (OpenSpec.upto riggingNamesSpec)

end Rows
end Go.Proofs.Ytaciigegbgnadaa
