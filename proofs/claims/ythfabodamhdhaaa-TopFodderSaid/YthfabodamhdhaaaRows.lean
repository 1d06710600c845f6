/-
  No cell of these rows narrows 'for every input' (looked for: loops, veiled, ifaces, maps, wideKeys, modest, calm, conditions, laid).
  DERIVED. THE GIVEN ROWS OF THIS SEAT. 14 by the template 'for every input the law returns true; each argument reads behind the call as it read before'; 0 by the template 'total and deterministic' (their statements: YthfabodamhdhaaaTotals.lean).
  GIVEN WITH THE SEED: the statements are not yours to turn. If you find one false, say at which input.
  Laid BY PROGRAM, IN A SANDBOX (cutbox-rows.mjs): the forced cells as the released guide's own fill.sh prints them over the translation 6fa026e19cb459d4… (all of the seat's roots in one cut). By AI agents, Wed Nov 11 2026. No macro, syntax, notation, axiom, sorry.
-/
import Derived.Test.YthfabodamhdhaaaChecked
import GoSem.Claim
import GoSem.ClaimJoined
import GoSem.ClaimMapViews
import Derived.JoinedTies
import Derived.KernelRfl
namespace Go.Proofs.Ythfabodamhdhaaa
/- THE CELL 'sum', in the pinned program and in every row, IS THE sha256 OF THE DUMP (.gsa) THAT YthfabodamhdhaaaProg.lean LOADS. Nothing in Lean hashes anything: it is a label: what it is worth is what the hold of that sum in a sandbox is worth. -/
noncomputable def Try.pinned : Pinned := { name := "ythfabodamhdhaaa", sum := "6fa026e19cb459d4c4375d1b73918e5b4cae63ea36f078a953c98c2b3c17f7f9", checked := Try.checked }
namespace Rows
def none {H : Type} : Left H := { results := [], args := [] }

/-- 'bigtoplaw06.RouteBest': WHATEVER THE INPUT: true; the input reads as it did. -/
def routeBestSpec : ChangeSpec := { name := "routeBest", fn := fun _ => fun
  | [d] => { results := [.lit (.bool true)], args := [d] }
  | _ => none }
def routeBestRow : OpenClaim := { program := "ythfabodamhdhaaa", sum := "6fa026e19cb459d4c4375d1b73918e5b4cae63ea36f078a953c98c2b3c17f7f9", func := "bigtop/bigtoplaw06.RouteBest", spec := "routeBest", unfollowed := true, recurses := true, plainKeys := false, apart := false }
def RouteBestSaid : Prop := routeBestRow.holds Try.pinned (OpenSpec.ofChange routeBestSpec)

/-- ITS FALSE NEIGHBOUR: 'it returns false'. Refute it at one input. -/
def routeBestWrong : ChangeSpec := { name := "routeBest", fn := fun _ => fun
  | [d] => { results := [.lit (.bool false)], args := [d] }
  | _ => none }
def RouteBestWrongFalsely : Prop := routeBestRow.holds Try.pinned (OpenSpec.ofChange routeBestWrong)

/-- 'bigtoplaw06.RouteBounds': WHATEVER THE INPUT: true; the input reads as it did. -/
def routeBoundsSpec : ChangeSpec := { name := "routeBounds", fn := fun _ => fun
  | [d1, d2] => { results := [.lit (.bool true)], args := [d1, d2] }
  | _ => none }
def routeBoundsRow : OpenClaim := { program := "ythfabodamhdhaaa", sum := "6fa026e19cb459d4c4375d1b73918e5b4cae63ea36f078a953c98c2b3c17f7f9", func := "bigtop/bigtoplaw06.RouteBounds", spec := "routeBounds", unfollowed := true, recurses := true, plainKeys := false, apart := false }
def RouteBoundsSaid : Prop := routeBoundsRow.holds Try.pinned (OpenSpec.ofChange routeBoundsSpec)

/-- ITS FALSE NEIGHBOUR: 'it returns false'. Refute it at one input. -/
def routeBoundsWrong : ChangeSpec := { name := "routeBounds", fn := fun _ => fun
  | [d1, d2] => { results := [.lit (.bool false)], args := [d1, d2] }
  | _ => none }
def RouteBoundsWrongFalsely : Prop := routeBoundsRow.holds Try.pinned (OpenSpec.ofChange routeBoundsWrong)

/-- 'bigtoplaw06.RouteRoom': WHATEVER THE INPUT: true; the input reads as it did. -/
def routeRoomSpec : ChangeSpec := { name := "routeRoom", fn := fun _ => fun
  | [d1, d2, d3, d4, d5, d6] => { results := [.lit (.bool true)], args := [d1, d2, d3, d4, d5, d6] }
  | _ => none }
def routeRoomRow : OpenClaim := { program := "ythfabodamhdhaaa", sum := "6fa026e19cb459d4c4375d1b73918e5b4cae63ea36f078a953c98c2b3c17f7f9", func := "bigtop/bigtoplaw06.RouteRoom", spec := "routeRoom", unfollowed := true, recurses := true, plainKeys := false, apart := false }
def RouteRoomSaid : Prop := routeRoomRow.holds Try.pinned (OpenSpec.ofChange routeRoomSpec)

/-- ITS FALSE NEIGHBOUR: 'it returns false'. Refute it at one input. -/
def routeRoomWrong : ChangeSpec := { name := "routeRoom", fn := fun _ => fun
  | [d1, d2, d3, d4, d5, d6] => { results := [.lit (.bool false)], args := [d1, d2, d3, d4, d5, d6] }
  | _ => none }
def RouteRoomWrongFalsely : Prop := routeRoomRow.holds Try.pinned (OpenSpec.ofChange routeRoomWrong)

/-- 'bigtoplaw06.RouteRivals': WHATEVER THE INPUT: true; the input reads as it did. -/
def routeRivalsSpec : ChangeSpec := { name := "routeRivals", fn := fun _ => fun
  | [d1, d2, d3, d4, d5] => { results := [.lit (.bool true)], args := [d1, d2, d3, d4, d5] }
  | _ => none }
def routeRivalsRow : OpenClaim := { program := "ythfabodamhdhaaa", sum := "6fa026e19cb459d4c4375d1b73918e5b4cae63ea36f078a953c98c2b3c17f7f9", func := "bigtop/bigtoplaw06.RouteRivals", spec := "routeRivals", unfollowed := true, recurses := true, plainKeys := false, apart := false }
def RouteRivalsSaid : Prop := routeRivalsRow.holds Try.pinned (OpenSpec.ofChange routeRivalsSpec)

/-- ITS FALSE NEIGHBOUR: 'it returns false'. Refute it at one input. -/
def routeRivalsWrong : ChangeSpec := { name := "routeRivals", fn := fun _ => fun
  | [d1, d2, d3, d4, d5] => { results := [.lit (.bool false)], args := [d1, d2, d3, d4, d5] }
  | _ => none }
def RouteRivalsWrongFalsely : Prop := routeRivalsRow.holds Try.pinned (OpenSpec.ofChange routeRivalsWrong)

/-- 'bigtoplaw06.RouteDays': WHATEVER THE INPUT: true; the input reads as it did. -/
def routeDaysSpec : ChangeSpec := { name := "routeDays", fn := fun _ => fun
  | [d1, d2, d3, d4, d5] => { results := [.lit (.bool true)], args := [d1, d2, d3, d4, d5] }
  | _ => none }
def routeDaysRow : OpenClaim := { program := "ythfabodamhdhaaa", sum := "6fa026e19cb459d4c4375d1b73918e5b4cae63ea36f078a953c98c2b3c17f7f9", func := "bigtop/bigtoplaw06.RouteDays", spec := "routeDays", unfollowed := true, recurses := true, plainKeys := false, apart := false }
def RouteDaysSaid : Prop := routeDaysRow.holds Try.pinned (OpenSpec.ofChange routeDaysSpec)

/-- ITS FALSE NEIGHBOUR: 'it returns false'. Refute it at one input. -/
def routeDaysWrong : ChangeSpec := { name := "routeDays", fn := fun _ => fun
  | [d1, d2, d3, d4, d5] => { results := [.lit (.bool false)], args := [d1, d2, d3, d4, d5] }
  | _ => none }
def RouteDaysWrongFalsely : Prop := routeDaysRow.holds Try.pinned (OpenSpec.ofChange routeDaysWrong)

/-- 'bigtoplaw06.RouteFaults': WHATEVER THE INPUT: true; the input reads as it did. -/
def routeFaultsSpec : ChangeSpec := { name := "routeFaults", fn := fun _ => fun
  | [d1, d2] => { results := [.lit (.bool true)], args := [d1, d2] }
  | _ => none }
def routeFaultsRow : OpenClaim := { program := "ythfabodamhdhaaa", sum := "6fa026e19cb459d4c4375d1b73918e5b4cae63ea36f078a953c98c2b3c17f7f9", func := "bigtop/bigtoplaw06.RouteFaults", spec := "routeFaults", unfollowed := true, recurses := true, plainKeys := false, apart := false }
def RouteFaultsSaid : Prop := routeFaultsRow.holds Try.pinned (OpenSpec.ofChange routeFaultsSpec)

/-- ITS FALSE NEIGHBOUR: 'it returns false'. Refute it at one input. -/
def routeFaultsWrong : ChangeSpec := { name := "routeFaults", fn := fun _ => fun
  | [d1, d2] => { results := [.lit (.bool false)], args := [d1, d2] }
  | _ => none }
def RouteFaultsWrongFalsely : Prop := routeFaultsRow.holds Try.pinned (OpenSpec.ofChange routeFaultsWrong)

/-- 'bigtoplaw06.RouteShows': WHATEVER THE INPUT: true; the input reads as it did. -/
def routeShowsSpec : ChangeSpec := { name := "routeShows", fn := fun _ => fun
  | [d1, d2, d3, d4, d5, d6, d7, d8] => { results := [.lit (.bool true)], args := [d1, d2, d3, d4, d5, d6, d7, d8] }
  | _ => none }
def routeShowsRow : OpenClaim := { program := "ythfabodamhdhaaa", sum := "6fa026e19cb459d4c4375d1b73918e5b4cae63ea36f078a953c98c2b3c17f7f9", func := "bigtop/bigtoplaw06.RouteShows", spec := "routeShows", unfollowed := true, recurses := true, plainKeys := false, apart := false }
def RouteShowsSaid : Prop := routeShowsRow.holds Try.pinned (OpenSpec.ofChange routeShowsSpec)

/-- ITS FALSE NEIGHBOUR: 'it returns false'. Refute it at one input. -/
def routeShowsWrong : ChangeSpec := { name := "routeShows", fn := fun _ => fun
  | [d1, d2, d3, d4, d5, d6, d7, d8] => { results := [.lit (.bool false)], args := [d1, d2, d3, d4, d5, d6, d7, d8] }
  | _ => none }
def RouteShowsWrongFalsely : Prop := routeShowsRow.holds Try.pinned (OpenSpec.ofChange routeShowsWrong)

/-- 'bigtoplaw06.RouteParts': WHATEVER THE INPUT: true; the input reads as it did. -/
def routePartsSpec : ChangeSpec := { name := "routeParts", fn := fun _ => fun
  | [d1, d2] => { results := [.lit (.bool true)], args := [d1, d2] }
  | _ => none }
def routePartsRow : OpenClaim := { program := "ythfabodamhdhaaa", sum := "6fa026e19cb459d4c4375d1b73918e5b4cae63ea36f078a953c98c2b3c17f7f9", func := "bigtop/bigtoplaw06.RouteParts", spec := "routeParts", unfollowed := true, recurses := true, plainKeys := false, apart := false }
def RoutePartsSaid : Prop := routePartsRow.holds Try.pinned (OpenSpec.ofChange routePartsSpec)

/-- ITS FALSE NEIGHBOUR: 'it returns false'. Refute it at one input. -/
def routePartsWrong : ChangeSpec := { name := "routeParts", fn := fun _ => fun
  | [d1, d2] => { results := [.lit (.bool false)], args := [d1, d2] }
  | _ => none }
def RoutePartsWrongFalsely : Prop := routePartsRow.holds Try.pinned (OpenSpec.ofChange routePartsWrong)

/-- 'bigtoplaw06.RouteNever': WHATEVER THE INPUT: true; the input reads as it did. -/
def routeNeverSpec : ChangeSpec := { name := "routeNever", fn := fun _ => fun
  | [d1, d2, d3, d4, d5] => { results := [.lit (.bool true)], args := [d1, d2, d3, d4, d5] }
  | _ => none }
def routeNeverRow : OpenClaim := { program := "ythfabodamhdhaaa", sum := "6fa026e19cb459d4c4375d1b73918e5b4cae63ea36f078a953c98c2b3c17f7f9", func := "bigtop/bigtoplaw06.RouteNever", spec := "routeNever", unfollowed := true, recurses := true, plainKeys := false, apart := false }
def RouteNeverSaid : Prop := routeNeverRow.holds Try.pinned (OpenSpec.ofChange routeNeverSpec)

/-- ITS FALSE NEIGHBOUR: 'it returns false'. Refute it at one input. -/
def routeNeverWrong : ChangeSpec := { name := "routeNever", fn := fun _ => fun
  | [d1, d2, d3, d4, d5] => { results := [.lit (.bool false)], args := [d1, d2, d3, d4, d5] }
  | _ => none }
def RouteNeverWrongFalsely : Prop := routeNeverRow.holds Try.pinned (OpenSpec.ofChange routeNeverWrong)

/-- 'bigtoplaw06.RouteMends': WHATEVER THE INPUT: true; the input reads as it did. -/
def routeMendsSpec : ChangeSpec := { name := "routeMends", fn := fun _ => fun
  | [d1, d2, d3] => { results := [.lit (.bool true)], args := [d1, d2, d3] }
  | _ => none }
def routeMendsRow : OpenClaim := { program := "ythfabodamhdhaaa", sum := "6fa026e19cb459d4c4375d1b73918e5b4cae63ea36f078a953c98c2b3c17f7f9", func := "bigtop/bigtoplaw06.RouteMends", spec := "routeMends", unfollowed := true, recurses := true, plainKeys := false, apart := false }
def RouteMendsSaid : Prop := routeMendsRow.holds Try.pinned (OpenSpec.ofChange routeMendsSpec)

/-- ITS FALSE NEIGHBOUR: 'it returns false'. Refute it at one input. -/
def routeMendsWrong : ChangeSpec := { name := "routeMends", fn := fun _ => fun
  | [d1, d2, d3] => { results := [.lit (.bool false)], args := [d1, d2, d3] }
  | _ => none }
def RouteMendsWrongFalsely : Prop := routeMendsRow.holds Try.pinned (OpenSpec.ofChange routeMendsWrong)

/-- 'bigtoplaw06.RouteRight': WHATEVER THE INPUT: true; the input reads as it did. -/
def routeRightSpec : ChangeSpec := { name := "routeRight", fn := fun _ => fun
  | [d1, d2, d3, d4] => { results := [.lit (.bool true)], args := [d1, d2, d3, d4] }
  | _ => none }
def routeRightRow : OpenClaim := { program := "ythfabodamhdhaaa", sum := "6fa026e19cb459d4c4375d1b73918e5b4cae63ea36f078a953c98c2b3c17f7f9", func := "bigtop/bigtoplaw06.RouteRight", spec := "routeRight", unfollowed := true, recurses := true, plainKeys := false, apart := false }
def RouteRightSaid : Prop := routeRightRow.holds Try.pinned (OpenSpec.ofChange routeRightSpec)

/-- ITS FALSE NEIGHBOUR: 'it returns false'. Refute it at one input. -/
def routeRightWrong : ChangeSpec := { name := "routeRight", fn := fun _ => fun
  | [d1, d2, d3, d4] => { results := [.lit (.bool false)], args := [d1, d2, d3, d4] }
  | _ => none }
def RouteRightWrongFalsely : Prop := routeRightRow.holds Try.pinned (OpenSpec.ofChange routeRightWrong)

/-- 'bigtoplaw06.RouteNames': WHATEVER THE INPUT: true; the input reads as it did. -/
def routeNamesSpec : ChangeSpec := { name := "routeNames", fn := fun _ => fun
  | [] => { results := [.lit (.bool true)], args := [] }
  | _ => none }
def routeNamesRow : OpenClaim := { program := "ythfabodamhdhaaa", sum := "6fa026e19cb459d4c4375d1b73918e5b4cae63ea36f078a953c98c2b3c17f7f9", func := "bigtop/bigtoplaw06.RouteNames", spec := "routeNames", unfollowed := true, recurses := true, plainKeys := false, apart := false }
def RouteNamesSaid : Prop := routeNamesRow.holds Try.pinned (OpenSpec.ofChange routeNamesSpec)

/-- ITS FALSE NEIGHBOUR: 'it returns false'. Refute it at one input. -/
def routeNamesWrong : ChangeSpec := { name := "routeNames", fn := fun _ => fun
  | [] => { results := [.lit (.bool false)], args := [] }
  | _ => none }
def RouteNamesWrongFalsely : Prop := routeNamesRow.holds Try.pinned (OpenSpec.ofChange routeNamesWrong)

/-- 'bigtoptop.TopLearns': WHATEVER THE INPUT: true; the input reads as it did. -/
def topLearnsSpec : ChangeSpec := { name := "topLearns", fn := fun _ => fun
  | [d1, d2, d3, d4] => { results := [.lit (.bool true)], args := [d1, d2, d3, d4] }
  | _ => none }
def topLearnsRow : OpenClaim := { program := "ythfabodamhdhaaa", sum := "6fa026e19cb459d4c4375d1b73918e5b4cae63ea36f078a953c98c2b3c17f7f9", func := "bigtop/bigtoptop.TopLearns", spec := "topLearns", unfollowed := true, recurses := true, plainKeys := false, apart := false }
def TopLearnsSaid : Prop := topLearnsRow.holds Try.pinned (OpenSpec.ofChange topLearnsSpec)

/-- ITS FALSE NEIGHBOUR: 'it returns false'. Refute it at one input. -/
def topLearnsWrong : ChangeSpec := { name := "topLearns", fn := fun _ => fun
  | [d1, d2, d3, d4] => { results := [.lit (.bool false)], args := [d1, d2, d3, d4] }
  | _ => none }
def TopLearnsWrongFalsely : Prop := topLearnsRow.holds Try.pinned (OpenSpec.ofChange topLearnsWrong)

/-- 'bigtoptop.TopFodder': WHATEVER THE INPUT: true; the input reads as it did. -/
def topFodderSpec : ChangeSpec := { name := "topFodder", fn := fun _ => fun
  | [d1, d2, d3, d4, d5] => { results := [.lit (.bool true)], args := [d1, d2, d3, d4, d5] }
  | _ => none }
def topFodderRow : OpenClaim := { program := "ythfabodamhdhaaa", sum := "6fa026e19cb459d4c4375d1b73918e5b4cae63ea36f078a953c98c2b3c17f7f9", func := "bigtop/bigtoptop.TopFodder", spec := "topFodder", unfollowed := true, recurses := true, plainKeys := false, apart := false }
def TopFodderSaid : Prop := topFodderRow.holds Try.pinned (OpenSpec.ofChange topFodderSpec)

/-- ITS FALSE NEIGHBOUR: 'it returns false'. Refute it at one input. -/
def topFodderWrong : ChangeSpec := { name := "topFodder", fn := fun _ => fun
  | [d1, d2, d3, d4, d5] => { results := [.lit (.bool false)], args := [d1, d2, d3, d4, d5] }
  | _ => none }
def TopFodderWrongFalsely : Prop := topFodderRow.holds Try.pinned (OpenSpec.ofChange topFodderWrong)

/- THE SECOND FORM. 'bulk': how many values and letters a reading holds, each counted each time it is reached (what is shared counts as often as it is met; a slice's spare places count too). A statement '..UptoSaid' is the law's where the arguments, and the package variables that the reading takes, are together of bulk at most 1048576: NARROWER than '..Said'. Prove '..Said' where nothing that the law and all that it calls make is longer than what came in: it says more and counts as full. Else prove '..UptoSaid'. A law counts once. -/
mutual
def uptoBulk {H : Type} : DataW H → Nat
  | .lit (.string bytes) => bytes.length + 1
  | .lit _ => 1
  | .nil => 1
  | .ptr d => uptoBulk d + 1
  | .slice elems spare => uptoBulkAll elems + uptoBulkAll spare + 1
  | .agg parts => uptoBulkAll parts + 1
  | .iface _ d => uptoBulk d + 1
  | .map entries => uptoBulkEntries entries + 1
  | .held _ => 1
def uptoBulkAll {H : Type} : List (DataW H) → Nat
  | [] => 0
  | d :: r => uptoBulk d + uptoBulkAll r
def uptoBulkEntries {H : Type} : List (Lit × DataW H) → Nat
  | [] => 0
  | x :: r => uptoBulkEntry x + uptoBulkEntries r
def uptoBulkEntry {H : Type} : Lit × DataW H → Nat
  | (.string bytes, d) => bytes.length + uptoBulk d + 1
  | (_, d) => uptoBulk d + 1
 end
def uptoSmall : (H : Type) → List (DataW H) → Bool := fun _ ds => decide (uptoBulkAll ds ≤ 1048576)
def OpenSpec.upto (s : _root_.Go.ChangeSpec) : _root_.Go.OpenSpec := { _root_.Go.OpenSpec.ofChange s with cond := some uptoSmall }

/-- 'bigtoplaw06.RouteBest', WHERE WHAT IT READS IS OF BULK AT MOST 1048576: true; the input reads as it did. -/
def routeBestUptoRow : OpenClaim := { program := "ythfabodamhdhaaa", sum := "6fa026e19cb459d4c4375d1b73918e5b4cae63ea36f078a953c98c2b3c17f7f9", func := "bigtop/bigtoplaw06.RouteBest", spec := "routeBest", unfollowed := true, recurses := true, plainKeys := false, apart := false, narrowed := true }
def RouteBestUptoSaid : Prop := routeBestUptoRow.holds Try.pinned (OpenSpec.upto routeBestSpec)

/-- 'bigtoplaw06.RouteBounds', WHERE WHAT IT READS IS OF BULK AT MOST 1048576: true; the input reads as it did. -/
def routeBoundsUptoRow : OpenClaim := { program := "ythfabodamhdhaaa", sum := "6fa026e19cb459d4c4375d1b73918e5b4cae63ea36f078a953c98c2b3c17f7f9", func := "bigtop/bigtoplaw06.RouteBounds", spec := "routeBounds", unfollowed := true, recurses := true, plainKeys := false, apart := false, narrowed := true }
def RouteBoundsUptoSaid : Prop := routeBoundsUptoRow.holds Try.pinned (OpenSpec.upto routeBoundsSpec)

/-- 'bigtoplaw06.RouteRoom', WHERE WHAT IT READS IS OF BULK AT MOST 1048576: true; the input reads as it did. -/
def routeRoomUptoRow : OpenClaim := { program := "ythfabodamhdhaaa", sum := "6fa026e19cb459d4c4375d1b73918e5b4cae63ea36f078a953c98c2b3c17f7f9", func := "bigtop/bigtoplaw06.RouteRoom", spec := "routeRoom", unfollowed := true, recurses := true, plainKeys := false, apart := false, narrowed := true }
def RouteRoomUptoSaid : Prop := routeRoomUptoRow.holds Try.pinned (OpenSpec.upto routeRoomSpec)

/-- 'bigtoplaw06.RouteRivals', WHERE WHAT IT READS IS OF BULK AT MOST 1048576: true; the input reads as it did. -/
def routeRivalsUptoRow : OpenClaim := { program := "ythfabodamhdhaaa", sum := "6fa026e19cb459d4c4375d1b73918e5b4cae63ea36f078a953c98c2b3c17f7f9", func := "bigtop/bigtoplaw06.RouteRivals", spec := "routeRivals", unfollowed := true, recurses := true, plainKeys := false, apart := false, narrowed := true }
def RouteRivalsUptoSaid : Prop := routeRivalsUptoRow.holds Try.pinned (OpenSpec.upto routeRivalsSpec)

/-- 'bigtoplaw06.RouteDays', WHERE WHAT IT READS IS OF BULK AT MOST 1048576: true; the input reads as it did. -/
def routeDaysUptoRow : OpenClaim := { program := "ythfabodamhdhaaa", sum := "6fa026e19cb459d4c4375d1b73918e5b4cae63ea36f078a953c98c2b3c17f7f9", func := "bigtop/bigtoplaw06.RouteDays", spec := "routeDays", unfollowed := true, recurses := true, plainKeys := false, apart := false, narrowed := true }
def RouteDaysUptoSaid : Prop := routeDaysUptoRow.holds Try.pinned (OpenSpec.upto routeDaysSpec)

/-- 'bigtoplaw06.RouteFaults', WHERE WHAT IT READS IS OF BULK AT MOST 1048576: true; the input reads as it did. -/
def routeFaultsUptoRow : OpenClaim := { program := "ythfabodamhdhaaa", sum := "6fa026e19cb459d4c4375d1b73918e5b4cae63ea36f078a953c98c2b3c17f7f9", func := "bigtop/bigtoplaw06.RouteFaults", spec := "routeFaults", unfollowed := true, recurses := true, plainKeys := false, apart := false, narrowed := true }
def RouteFaultsUptoSaid : Prop := routeFaultsUptoRow.holds Try.pinned (OpenSpec.upto routeFaultsSpec)

/-- 'bigtoplaw06.RouteShows', WHERE WHAT IT READS IS OF BULK AT MOST 1048576: true; the input reads as it did. -/
def routeShowsUptoRow : OpenClaim := { program := "ythfabodamhdhaaa", sum := "6fa026e19cb459d4c4375d1b73918e5b4cae63ea36f078a953c98c2b3c17f7f9", func := "bigtop/bigtoplaw06.RouteShows", spec := "routeShows", unfollowed := true, recurses := true, plainKeys := false, apart := false, narrowed := true }
def RouteShowsUptoSaid : Prop := routeShowsUptoRow.holds Try.pinned (OpenSpec.upto routeShowsSpec)

/-- 'bigtoplaw06.RouteParts', WHERE WHAT IT READS IS OF BULK AT MOST 1048576: true; the input reads as it did. -/
def routePartsUptoRow : OpenClaim := { program := "ythfabodamhdhaaa", sum := "6fa026e19cb459d4c4375d1b73918e5b4cae63ea36f078a953c98c2b3c17f7f9", func := "bigtop/bigtoplaw06.RouteParts", spec := "routeParts", unfollowed := true, recurses := true, plainKeys := false, apart := false, narrowed := true }
def RoutePartsUptoSaid : Prop := routePartsUptoRow.holds Try.pinned (OpenSpec.upto routePartsSpec)

/-- 'bigtoplaw06.RouteNever', WHERE WHAT IT READS IS OF BULK AT MOST 1048576: true; the input reads as it did. -/
def routeNeverUptoRow : OpenClaim := { program := "ythfabodamhdhaaa", sum := "6fa026e19cb459d4c4375d1b73918e5b4cae63ea36f078a953c98c2b3c17f7f9", func := "bigtop/bigtoplaw06.RouteNever", spec := "routeNever", unfollowed := true, recurses := true, plainKeys := false, apart := false, narrowed := true }
def RouteNeverUptoSaid : Prop := routeNeverUptoRow.holds Try.pinned (OpenSpec.upto routeNeverSpec)

/-- 'bigtoplaw06.RouteMends', WHERE WHAT IT READS IS OF BULK AT MOST 1048576: true; the input reads as it did. -/
def routeMendsUptoRow : OpenClaim := { program := "ythfabodamhdhaaa", sum := "6fa026e19cb459d4c4375d1b73918e5b4cae63ea36f078a953c98c2b3c17f7f9", func := "bigtop/bigtoplaw06.RouteMends", spec := "routeMends", unfollowed := true, recurses := true, plainKeys := false, apart := false, narrowed := true }
def RouteMendsUptoSaid : Prop := routeMendsUptoRow.holds Try.pinned (OpenSpec.upto routeMendsSpec)

/-- 'bigtoplaw06.RouteRight', WHERE WHAT IT READS IS OF BULK AT MOST 1048576: true; the input reads as it did. -/
def routeRightUptoRow : OpenClaim := { program := "ythfabodamhdhaaa", sum := "6fa026e19cb459d4c4375d1b73918e5b4cae63ea36f078a953c98c2b3c17f7f9", func := "bigtop/bigtoplaw06.RouteRight", spec := "routeRight", unfollowed := true, recurses := true, plainKeys := false, apart := false, narrowed := true }
def RouteRightUptoSaid : Prop := routeRightUptoRow.holds Try.pinned (OpenSpec.upto routeRightSpec)

/-- 'bigtoplaw06.RouteNames', WHERE WHAT IT READS IS OF BULK AT MOST 1048576: true; the input reads as it did. -/
def routeNamesUptoRow : OpenClaim := { program := "ythfabodamhdhaaa", sum := "6fa026e19cb459d4c4375d1b73918e5b4cae63ea36f078a953c98c2b3c17f7f9", func := "bigtop/bigtoplaw06.RouteNames", spec := "routeNames", unfollowed := true, recurses := true, plainKeys := false, apart := false, narrowed := true }
def RouteNamesUptoSaid : Prop := routeNamesUptoRow.holds Try.pinned (OpenSpec.upto routeNamesSpec)

/-- 'bigtoptop.TopLearns', WHERE WHAT IT READS IS OF BULK AT MOST 1048576: true; the input reads as it did. -/
def topLearnsUptoRow : OpenClaim := { program := "ythfabodamhdhaaa", sum := "6fa026e19cb459d4c4375d1b73918e5b4cae63ea36f078a953c98c2b3c17f7f9", func := "bigtop/bigtoptop.TopLearns", spec := "topLearns", unfollowed := true, recurses := true, plainKeys := false, apart := false, narrowed := true }
def TopLearnsUptoSaid : Prop := topLearnsUptoRow.holds Try.pinned (OpenSpec.upto topLearnsSpec)

/-- 'bigtoptop.TopFodder', WHERE WHAT IT READS IS OF BULK AT MOST 1048576: true; the input reads as it did. -/
def topFodderUptoRow : OpenClaim := { program := "ythfabodamhdhaaa", sum := "6fa026e19cb459d4c4375d1b73918e5b4cae63ea36f078a953c98c2b3c17f7f9", func := "bigtop/bigtoptop.TopFodder", spec := "topFodder", unfollowed := true, recurses := true, plainKeys := false, apart := false, narrowed := true }
def TopFodderUptoSaid : Prop := topFodderUptoRow.holds Try.pinned (OpenSpec.upto topFodderSpec)

end Rows
end Go.Proofs.Ythfabodamhdhaaa
