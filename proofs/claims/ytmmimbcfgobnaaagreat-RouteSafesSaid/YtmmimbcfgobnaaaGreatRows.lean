/-
  No cell of these rows narrows 'for every input' (looked for: loops, veiled, ifaces, maps, wideKeys, modest, calm, conditions, laid).
  DERIVED. THE GIVEN ROWS OF THIS SEAT. 12 by the template 'for every input the law returns true; each argument reads behind the call as it read before'; 0 by the template 'total and deterministic' (their statements: YtmmimbcfgobnaaaGreatTotals.lean).
  GIVEN WITH THE SEED: the statements are not yours to turn. If you find one false, say at which input.
  Laid BY PROGRAM, IN A SANDBOX (cutbox-rows.mjs): the forced cells as the released guide's own fill.sh prints them over the translation 932262c2575c4c31… (all of the seat's roots in one cut). By AI agents, Wed Nov 11 2026. No macro, syntax, notation, axiom, sorry.
-/
import Derived.Test.YtmmimbcfgobnaaaGreatChecked
import GoSem.Claim
import GoSem.ClaimJoined
import GoSem.ClaimMapViews
import Derived.JoinedTies
import Derived.KernelRfl
namespace Go.Proofs.YtmmimbcfgobnaaaGreat
/- THE CELL 'sum', in the pinned program and in every row, IS THE sha256 OF THE DUMP (.gsa) THAT YtmmimbcfgobnaaaGreatProg.lean LOADS. Nothing in Lean hashes anything: it is a label: what it is worth is what the hold of that sum in a sandbox is worth. -/
noncomputable def Tryz.pinned : Pinned := { name := "ytmmimbcfgobnaaagreat", sum := "932262c2575c4c31cb0cb0bb01c714231b3e791f6e8e1a099aa9d2b3b3d1b373", checked := Tryz.checked }
namespace Rows
def none {H : Type} : Left H := { results := [], args := [] }

/-- 'swashplatelaw05.RouteHavens': WHATEVER THE INPUT: true; the input reads as it did. -/
def routeHavensSpec : ChangeSpec := { name := "routeHavens", fn := fun _ => fun
  | [d1, d2, d3] => { results := [.lit (.bool true)], args := [d1, d2, d3] }
  | _ => none }
def routeHavensRow : OpenClaim := { program := "ytmmimbcfgobnaaagreat", sum := "932262c2575c4c31cb0cb0bb01c714231b3e791f6e8e1a099aa9d2b3b3d1b373", func := "swashplate/swashplatelaw05.RouteHavens", spec := "routeHavens", unfollowed := true, recurses := true, apart := false }
def RouteHavensSaid : Prop := routeHavensRow.holds Tryz.pinned (OpenSpec.ofChange routeHavensSpec)

/-- ITS FALSE NEIGHBOUR: 'it returns false'. Refute it at one input. -/
def routeHavensWrong : ChangeSpec := { name := "routeHavens", fn := fun _ => fun
  | [d1, d2, d3] => { results := [.lit (.bool false)], args := [d1, d2, d3] }
  | _ => none }
def RouteHavensWrongFalsely : Prop := routeHavensRow.holds Tryz.pinned (OpenSpec.ofChange routeHavensWrong)

/-- 'swashplatelaw05.RouteTriangles': WHATEVER THE INPUT: true; the input reads as it did. -/
def routeTrianglesSpec : ChangeSpec := { name := "routeTriangles", fn := fun _ => fun
  | [d1, d2] => { results := [.lit (.bool true)], args := [d1, d2] }
  | _ => none }
def routeTrianglesRow : OpenClaim := { program := "ytmmimbcfgobnaaagreat", sum := "932262c2575c4c31cb0cb0bb01c714231b3e791f6e8e1a099aa9d2b3b3d1b373", func := "swashplate/swashplatelaw05.RouteTriangles", spec := "routeTriangles", unfollowed := true, recurses := true, apart := false }
def RouteTrianglesSaid : Prop := routeTrianglesRow.holds Tryz.pinned (OpenSpec.ofChange routeTrianglesSpec)

/-- ITS FALSE NEIGHBOUR: 'it returns false'. Refute it at one input. -/
def routeTrianglesWrong : ChangeSpec := { name := "routeTriangles", fn := fun _ => fun
  | [d1, d2] => { results := [.lit (.bool false)], args := [d1, d2] }
  | _ => none }
def RouteTrianglesWrongFalsely : Prop := routeTrianglesRow.holds Tryz.pinned (OpenSpec.ofChange routeTrianglesWrong)

/-- 'swashplatelaw05.RouteTimes': WHATEVER THE INPUT: true; the input reads as it did. -/
def routeTimesSpec : ChangeSpec := { name := "routeTimes", fn := fun _ => fun
  | [d1, d2] => { results := [.lit (.bool true)], args := [d1, d2] }
  | _ => none }
def routeTimesRow : OpenClaim := { program := "ytmmimbcfgobnaaagreat", sum := "932262c2575c4c31cb0cb0bb01c714231b3e791f6e8e1a099aa9d2b3b3d1b373", func := "swashplate/swashplatelaw05.RouteTimes", spec := "routeTimes", unfollowed := true, recurses := true, apart := false }
def RouteTimesSaid : Prop := routeTimesRow.holds Tryz.pinned (OpenSpec.ofChange routeTimesSpec)

/-- ITS FALSE NEIGHBOUR: 'it returns false'. Refute it at one input. -/
def routeTimesWrong : ChangeSpec := { name := "routeTimes", fn := fun _ => fun
  | [d1, d2] => { results := [.lit (.bool false)], args := [d1, d2] }
  | _ => none }
def RouteTimesWrongFalsely : Prop := routeTimesRow.holds Tryz.pinned (OpenSpec.ofChange routeTimesWrong)

/-- 'swashplatelaw05.RouteLeast': WHATEVER THE INPUT: true; the input reads as it did. -/
def routeLeastSpec : ChangeSpec := { name := "routeLeast", fn := fun _ => fun
  | [d1, d2] => { results := [.lit (.bool true)], args := [d1, d2] }
  | _ => none }
def routeLeastRow : OpenClaim := { program := "ytmmimbcfgobnaaagreat", sum := "932262c2575c4c31cb0cb0bb01c714231b3e791f6e8e1a099aa9d2b3b3d1b373", func := "swashplate/swashplatelaw05.RouteLeast", spec := "routeLeast", unfollowed := true, recurses := true, apart := false }
def RouteLeastSaid : Prop := routeLeastRow.holds Tryz.pinned (OpenSpec.ofChange routeLeastSpec)

/-- ITS FALSE NEIGHBOUR: 'it returns false'. Refute it at one input. -/
def routeLeastWrong : ChangeSpec := { name := "routeLeast", fn := fun _ => fun
  | [d1, d2] => { results := [.lit (.bool false)], args := [d1, d2] }
  | _ => none }
def RouteLeastWrongFalsely : Prop := routeLeastRow.holds Tryz.pinned (OpenSpec.ofChange routeLeastWrong)

/-- 'swashplatelaw05.RouteForecast': WHATEVER THE INPUT: true; the input reads as it did. -/
def routeForecastSpec : ChangeSpec := { name := "routeForecast", fn := fun _ => fun
  | [d1, d2, d3] => { results := [.lit (.bool true)], args := [d1, d2, d3] }
  | _ => none }
def routeForecastRow : OpenClaim := { program := "ytmmimbcfgobnaaagreat", sum := "932262c2575c4c31cb0cb0bb01c714231b3e791f6e8e1a099aa9d2b3b3d1b373", func := "swashplate/swashplatelaw05.RouteForecast", spec := "routeForecast", unfollowed := true, recurses := true, apart := false }
def RouteForecastSaid : Prop := routeForecastRow.holds Tryz.pinned (OpenSpec.ofChange routeForecastSpec)

/-- ITS FALSE NEIGHBOUR: 'it returns false'. Refute it at one input. -/
def routeForecastWrong : ChangeSpec := { name := "routeForecast", fn := fun _ => fun
  | [d1, d2, d3] => { results := [.lit (.bool false)], args := [d1, d2, d3] }
  | _ => none }
def RouteForecastWrongFalsely : Prop := routeForecastRow.holds Tryz.pinned (OpenSpec.ofChange routeForecastWrong)

/-- 'swashplatelaw05.RouteProves': WHATEVER THE INPUT: true; the input reads as it did. -/
def routeProvesSpec : ChangeSpec := { name := "routeProves", fn := fun _ => fun
  | [d1, d2, d3] => { results := [.lit (.bool true)], args := [d1, d2, d3] }
  | _ => none }
def routeProvesRow : OpenClaim := { program := "ytmmimbcfgobnaaagreat", sum := "932262c2575c4c31cb0cb0bb01c714231b3e791f6e8e1a099aa9d2b3b3d1b373", func := "swashplate/swashplatelaw05.RouteProves", spec := "routeProves", unfollowed := true, recurses := true, apart := false }
def RouteProvesSaid : Prop := routeProvesRow.holds Tryz.pinned (OpenSpec.ofChange routeProvesSpec)

/-- ITS FALSE NEIGHBOUR: 'it returns false'. Refute it at one input. -/
def routeProvesWrong : ChangeSpec := { name := "routeProves", fn := fun _ => fun
  | [d1, d2, d3] => { results := [.lit (.bool false)], args := [d1, d2, d3] }
  | _ => none }
def RouteProvesWrongFalsely : Prop := routeProvesRow.holds Tryz.pinned (OpenSpec.ofChange routeProvesWrong)

/-- 'swashplatelaw05.RouteReturns': WHATEVER THE INPUT: true; the input reads as it did. -/
def routeReturnsSpec : ChangeSpec := { name := "routeReturns", fn := fun _ => fun
  | [d1, d2] => { results := [.lit (.bool true)], args := [d1, d2] }
  | _ => none }
def routeReturnsRow : OpenClaim := { program := "ytmmimbcfgobnaaagreat", sum := "932262c2575c4c31cb0cb0bb01c714231b3e791f6e8e1a099aa9d2b3b3d1b373", func := "swashplate/swashplatelaw05.RouteReturns", spec := "routeReturns", unfollowed := true, recurses := true, apart := false }
def RouteReturnsSaid : Prop := routeReturnsRow.holds Tryz.pinned (OpenSpec.ofChange routeReturnsSpec)

/-- ITS FALSE NEIGHBOUR: 'it returns false'. Refute it at one input. -/
def routeReturnsWrong : ChangeSpec := { name := "routeReturns", fn := fun _ => fun
  | [d1, d2] => { results := [.lit (.bool false)], args := [d1, d2] }
  | _ => none }
def RouteReturnsWrongFalsely : Prop := routeReturnsRow.holds Tryz.pinned (OpenSpec.ofChange routeReturnsWrong)

/-- 'swashplatelaw05.RouteSafes': WHATEVER THE INPUT: true; the input reads as it did. -/
def routeSafesSpec : ChangeSpec := { name := "routeSafes", fn := fun _ => fun
  | [d1, d2] => { results := [.lit (.bool true)], args := [d1, d2] }
  | _ => none }
def routeSafesRow : OpenClaim := { program := "ytmmimbcfgobnaaagreat", sum := "932262c2575c4c31cb0cb0bb01c714231b3e791f6e8e1a099aa9d2b3b3d1b373", func := "swashplate/swashplatelaw05.RouteSafes", spec := "routeSafes", unfollowed := true, recurses := true, apart := false }
def RouteSafesSaid : Prop := routeSafesRow.holds Tryz.pinned (OpenSpec.ofChange routeSafesSpec)

/-- ITS FALSE NEIGHBOUR: 'it returns false'. Refute it at one input. -/
def routeSafesWrong : ChangeSpec := { name := "routeSafes", fn := fun _ => fun
  | [d1, d2] => { results := [.lit (.bool false)], args := [d1, d2] }
  | _ => none }
def RouteSafesWrongFalsely : Prop := routeSafesRow.holds Tryz.pinned (OpenSpec.ofChange routeSafesWrong)

/-- 'swashplatelaw05.RouteLeasts': WHATEVER THE INPUT: true; the input reads as it did. -/
def routeLeastsSpec : ChangeSpec := { name := "routeLeasts", fn := fun _ => fun
  | [d1, d2, d3] => { results := [.lit (.bool true)], args := [d1, d2, d3] }
  | _ => none }
def routeLeastsRow : OpenClaim := { program := "ytmmimbcfgobnaaagreat", sum := "932262c2575c4c31cb0cb0bb01c714231b3e791f6e8e1a099aa9d2b3b3d1b373", func := "swashplate/swashplatelaw05.RouteLeasts", spec := "routeLeasts", unfollowed := true, recurses := true, apart := false }
def RouteLeastsSaid : Prop := routeLeastsRow.holds Tryz.pinned (OpenSpec.ofChange routeLeastsSpec)

/-- ITS FALSE NEIGHBOUR: 'it returns false'. Refute it at one input. -/
def routeLeastsWrong : ChangeSpec := { name := "routeLeasts", fn := fun _ => fun
  | [d1, d2, d3] => { results := [.lit (.bool false)], args := [d1, d2, d3] }
  | _ => none }
def RouteLeastsWrongFalsely : Prop := routeLeastsRow.holds Tryz.pinned (OpenSpec.ofChange routeLeastsWrong)

/-- 'swashplatelaw05.RouteHaven': WHATEVER THE INPUT: true; the input reads as it did. -/
def routeHavenSpec : ChangeSpec := { name := "routeHaven", fn := fun _ => fun
  | [d1, d2, d3] => { results := [.lit (.bool true)], args := [d1, d2, d3] }
  | _ => none }
def routeHavenRow : OpenClaim := { program := "ytmmimbcfgobnaaagreat", sum := "932262c2575c4c31cb0cb0bb01c714231b3e791f6e8e1a099aa9d2b3b3d1b373", func := "swashplate/swashplatelaw05.RouteHaven", spec := "routeHaven", unfollowed := true, recurses := true, apart := false }
def RouteHavenSaid : Prop := routeHavenRow.holds Tryz.pinned (OpenSpec.ofChange routeHavenSpec)

/-- ITS FALSE NEIGHBOUR: 'it returns false'. Refute it at one input. -/
def routeHavenWrong : ChangeSpec := { name := "routeHaven", fn := fun _ => fun
  | [d1, d2, d3] => { results := [.lit (.bool false)], args := [d1, d2, d3] }
  | _ => none }
def RouteHavenWrongFalsely : Prop := routeHavenRow.holds Tryz.pinned (OpenSpec.ofChange routeHavenWrong)

/-- 'swashplatelaw05.RouteRoutes': WHATEVER THE INPUT: true; the input reads as it did. -/
def routeRoutesSpec : ChangeSpec := { name := "routeRoutes", fn := fun _ => fun
  | [d1, d2, d3] => { results := [.lit (.bool true)], args := [d1, d2, d3] }
  | _ => none }
def routeRoutesRow : OpenClaim := { program := "ytmmimbcfgobnaaagreat", sum := "932262c2575c4c31cb0cb0bb01c714231b3e791f6e8e1a099aa9d2b3b3d1b373", func := "swashplate/swashplatelaw05.RouteRoutes", spec := "routeRoutes", unfollowed := true, recurses := true, apart := false }
def RouteRoutesSaid : Prop := routeRoutesRow.holds Tryz.pinned (OpenSpec.ofChange routeRoutesSpec)

/-- ITS FALSE NEIGHBOUR: 'it returns false'. Refute it at one input. -/
def routeRoutesWrong : ChangeSpec := { name := "routeRoutes", fn := fun _ => fun
  | [d1, d2, d3] => { results := [.lit (.bool false)], args := [d1, d2, d3] }
  | _ => none }
def RouteRoutesWrongFalsely : Prop := routeRoutesRow.holds Tryz.pinned (OpenSpec.ofChange routeRoutesWrong)

/-- 'swashplatelaw05.RouteShort': WHATEVER THE INPUT: true; the input reads as it did. -/
def routeShortSpec : ChangeSpec := { name := "routeShort", fn := fun _ => fun
  | [d1, d2, d3] => { results := [.lit (.bool true)], args := [d1, d2, d3] }
  | _ => none }
def routeShortRow : OpenClaim := { program := "ytmmimbcfgobnaaagreat", sum := "932262c2575c4c31cb0cb0bb01c714231b3e791f6e8e1a099aa9d2b3b3d1b373", func := "swashplate/swashplatelaw05.RouteShort", spec := "routeShort", unfollowed := true, recurses := true, apart := false }
def RouteShortSaid : Prop := routeShortRow.holds Tryz.pinned (OpenSpec.ofChange routeShortSpec)

/-- ITS FALSE NEIGHBOUR: 'it returns false'. Refute it at one input. -/
def routeShortWrong : ChangeSpec := { name := "routeShort", fn := fun _ => fun
  | [d1, d2, d3] => { results := [.lit (.bool false)], args := [d1, d2, d3] }
  | _ => none }
def RouteShortWrongFalsely : Prop := routeShortRow.holds Tryz.pinned (OpenSpec.ofChange routeShortWrong)

/- THE SECOND FORM. 'bulk': how many values and letters a reading holds, each counted each time it is reached (what is shared counts as often as it is met; a slice's spare places count too). A statement '..UptoSaid' is the law's where the arguments, and the package variables that the reading takes, are together of bulk at most 1048576: NARROWER than '..Said'. Prove '..Said' where nothing that the law and all that it calls make is longer than what came in: it says more and counts as full. Else prove '..UptoSaid'. A law counts once. -/
mutual
def uptoBulk {H : Type} : DataW H → Nat
  | .lit (.string bytes) => bytes.length + 1
  | .lit _ => 1
  | .nil => 1
  | .ptr d => uptoBulk d + 1
  | .slice elems spare => uptoBulkAll elems + uptoBulkAll spare + 1
  | .agg parts => uptoBulkAll parts + 1
  | .iface _ d => uptoBulk d + 1
  | .map entries => uptoBulkEntries entries + 1
  | .held _ => 1
def uptoBulkAll {H : Type} : List (DataW H) → Nat
  | [] => 0
  | d :: r => uptoBulk d + uptoBulkAll r
def uptoBulkEntries {H : Type} : List (Lit × DataW H) → Nat
  | [] => 0
  | x :: r => uptoBulkEntry x + uptoBulkEntries r
def uptoBulkEntry {H : Type} : Lit × DataW H → Nat
  | (.string bytes, d) => bytes.length + uptoBulk d + 1
  | (_, d) => uptoBulk d + 1
 end
def uptoSmall : (H : Type) → List (DataW H) → Bool := fun _ ds => decide (uptoBulkAll ds ≤ 1048576)
def OpenSpec.upto (s : _root_.Go.ChangeSpec) : _root_.Go.OpenSpec := { _root_.Go.OpenSpec.ofChange s with cond := some uptoSmall }

/-- 'swashplatelaw05.RouteHavens', WHERE WHAT IT READS IS OF BULK AT MOST 1048576: true; the input reads as it did. -/
def routeHavensUptoRow : OpenClaim := { program := "ytmmimbcfgobnaaagreat", sum := "932262c2575c4c31cb0cb0bb01c714231b3e791f6e8e1a099aa9d2b3b3d1b373", func := "swashplate/swashplatelaw05.RouteHavens", spec := "routeHavens", unfollowed := true, recurses := true, apart := false, narrowed := true }
def RouteHavensUptoSaid : Prop := routeHavensUptoRow.holds Tryz.pinned (OpenSpec.upto routeHavensSpec)

/-- 'swashplatelaw05.RouteTriangles', WHERE WHAT IT READS IS OF BULK AT MOST 1048576: true; the input reads as it did. -/
def routeTrianglesUptoRow : OpenClaim := { program := "ytmmimbcfgobnaaagreat", sum := "932262c2575c4c31cb0cb0bb01c714231b3e791f6e8e1a099aa9d2b3b3d1b373", func := "swashplate/swashplatelaw05.RouteTriangles", spec := "routeTriangles", unfollowed := true, recurses := true, apart := false, narrowed := true }
def RouteTrianglesUptoSaid : Prop := routeTrianglesUptoRow.holds Tryz.pinned (OpenSpec.upto routeTrianglesSpec)

/-- 'swashplatelaw05.RouteTimes', WHERE WHAT IT READS IS OF BULK AT MOST 1048576: true; the input reads as it did. -/
def routeTimesUptoRow : OpenClaim := { program := "ytmmimbcfgobnaaagreat", sum := "932262c2575c4c31cb0cb0bb01c714231b3e791f6e8e1a099aa9d2b3b3d1b373", func := "swashplate/swashplatelaw05.RouteTimes", spec := "routeTimes", unfollowed := true, recurses := true, apart := false, narrowed := true }
def RouteTimesUptoSaid : Prop := routeTimesUptoRow.holds Tryz.pinned (OpenSpec.upto routeTimesSpec)

/-- 'swashplatelaw05.RouteLeast', WHERE WHAT IT READS IS OF BULK AT MOST 1048576: true; the input reads as it did. -/
def routeLeastUptoRow : OpenClaim := { program := "ytmmimbcfgobnaaagreat", sum := "932262c2575c4c31cb0cb0bb01c714231b3e791f6e8e1a099aa9d2b3b3d1b373", func := "swashplate/swashplatelaw05.RouteLeast", spec := "routeLeast", unfollowed := true, recurses := true, apart := false, narrowed := true }
def RouteLeastUptoSaid : Prop := routeLeastUptoRow.holds Tryz.pinned (OpenSpec.upto routeLeastSpec)

/-- 'swashplatelaw05.RouteForecast', WHERE WHAT IT READS IS OF BULK AT MOST 1048576: true; the input reads as it did. -/
def routeForecastUptoRow : OpenClaim := { program := "ytmmimbcfgobnaaagreat", sum := "932262c2575c4c31cb0cb0bb01c714231b3e791f6e8e1a099aa9d2b3b3d1b373", func := "swashplate/swashplatelaw05.RouteForecast", spec := "routeForecast", unfollowed := true, recurses := true, apart := false, narrowed := true }
def RouteForecastUptoSaid : Prop := routeForecastUptoRow.holds Tryz.pinned (OpenSpec.upto routeForecastSpec)

/-- 'swashplatelaw05.RouteProves', WHERE WHAT IT READS IS OF BULK AT MOST 1048576: true; the input reads as it did. -/
def routeProvesUptoRow : OpenClaim := { program := "ytmmimbcfgobnaaagreat", sum := "932262c2575c4c31cb0cb0bb01c714231b3e791f6e8e1a099aa9d2b3b3d1b373", func := "swashplate/swashplatelaw05.RouteProves", spec := "routeProves", unfollowed := true, recurses := true, apart := false, narrowed := true }
def RouteProvesUptoSaid : Prop := routeProvesUptoRow.holds Tryz.pinned (OpenSpec.upto routeProvesSpec)

/-- 'swashplatelaw05.RouteReturns', WHERE WHAT IT READS IS OF BULK AT MOST 1048576: true; the input reads as it did. -/
def routeReturnsUptoRow : OpenClaim := { program := "ytmmimbcfgobnaaagreat", sum := "932262c2575c4c31cb0cb0bb01c714231b3e791f6e8e1a099aa9d2b3b3d1b373", func := "swashplate/swashplatelaw05.RouteReturns", spec := "routeReturns", unfollowed := true, recurses := true, apart := false, narrowed := true }
def RouteReturnsUptoSaid : Prop := routeReturnsUptoRow.holds Tryz.pinned (OpenSpec.upto routeReturnsSpec)

/-- 'swashplatelaw05.RouteSafes', WHERE WHAT IT READS IS OF BULK AT MOST 1048576: true; the input reads as it did. -/
def routeSafesUptoRow : OpenClaim := { program := "ytmmimbcfgobnaaagreat", sum := "932262c2575c4c31cb0cb0bb01c714231b3e791f6e8e1a099aa9d2b3b3d1b373", func := "swashplate/swashplatelaw05.RouteSafes", spec := "routeSafes", unfollowed := true, recurses := true, apart := false, narrowed := true }
def RouteSafesUptoSaid : Prop := routeSafesUptoRow.holds Tryz.pinned (OpenSpec.upto routeSafesSpec)

/-- 'swashplatelaw05.RouteLeasts', WHERE WHAT IT READS IS OF BULK AT MOST 1048576: true; the input reads as it did. -/
def routeLeastsUptoRow : OpenClaim := { program := "ytmmimbcfgobnaaagreat", sum := "932262c2575c4c31cb0cb0bb01c714231b3e791f6e8e1a099aa9d2b3b3d1b373", func := "swashplate/swashplatelaw05.RouteLeasts", spec := "routeLeasts", unfollowed := true, recurses := true, apart := false, narrowed := true }
def RouteLeastsUptoSaid : Prop := routeLeastsUptoRow.holds Tryz.pinned (OpenSpec.upto routeLeastsSpec)

/-- 'swashplatelaw05.RouteHaven', WHERE WHAT IT READS IS OF BULK AT MOST 1048576: true; the input reads as it did. -/
def routeHavenUptoRow : OpenClaim := { program := "ytmmimbcfgobnaaagreat", sum := "932262c2575c4c31cb0cb0bb01c714231b3e791f6e8e1a099aa9d2b3b3d1b373", func := "swashplate/swashplatelaw05.RouteHaven", spec := "routeHaven", unfollowed := true, recurses := true, apart := false, narrowed := true }
def RouteHavenUptoSaid : Prop := routeHavenUptoRow.holds Tryz.pinned (OpenSpec.upto routeHavenSpec)

/-- 'swashplatelaw05.RouteRoutes', WHERE WHAT IT READS IS OF BULK AT MOST 1048576: true; the input reads as it did. -/
def routeRoutesUptoRow : OpenClaim := { program := "ytmmimbcfgobnaaagreat", sum := "932262c2575c4c31cb0cb0bb01c714231b3e791f6e8e1a099aa9d2b3b3d1b373", func := "swashplate/swashplatelaw05.RouteRoutes", spec := "routeRoutes", unfollowed := true, recurses := true, apart := false, narrowed := true }
def RouteRoutesUptoSaid : Prop := routeRoutesUptoRow.holds Tryz.pinned (OpenSpec.upto routeRoutesSpec)

/-- 'swashplatelaw05.RouteShort', WHERE WHAT IT READS IS OF BULK AT MOST 1048576: true; the input reads as it did. -/
def routeShortUptoRow : OpenClaim := { program := "ytmmimbcfgobnaaagreat", sum := "932262c2575c4c31cb0cb0bb01c714231b3e791f6e8e1a099aa9d2b3b3d1b373", func := "swashplate/swashplatelaw05.RouteShort", spec := "routeShort", unfollowed := true, recurses := true, apart := false, narrowed := true }
def RouteShortUptoSaid : Prop := routeShortUptoRow.holds Tryz.pinned (OpenSpec.upto routeShortSpec)

end Rows
end Go.Proofs.YtmmimbcfgobnaaaGreat
