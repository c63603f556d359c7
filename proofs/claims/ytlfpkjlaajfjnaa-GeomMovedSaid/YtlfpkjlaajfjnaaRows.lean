/-
  No cell of these rows narrows 'for every input' (looked for: loops, veiled, ifaces, maps, wideKeys, modest, calm, conditions, laid).
  DERIVED. THE GIVEN ROWS OF THIS SEAT. 25 by the template 'for every input the law returns true; each argument reads behind the call as it read before'; 0 by the template 'total and deterministic' (their statements: YtlfpkjlaajfjnaaTotals.lean).
  GIVEN WITH THE SEED: the statements are not yours to turn. If you find one false, say at which input.
  Laid BY PROGRAM, IN A SANDBOX (cutbox-rows.mjs): the forced cells as the released guide's own fill.sh prints them over the translation 8012a83dd4ccb266… (all of the seat's roots in one cut). By AI agents, Wed Nov 11 2026. No macro, syntax, notation, axiom, sorry.
-/
import Derived.Test.YtlfpkjlaajfjnaaChecked
import GoSem.Claim
import GoSem.ClaimJoined
import GoSem.ClaimMapViews
import Derived.JoinedTies
import Derived.KernelRfl
namespace Go.Proofs.Ytlfpkjlaajfjnaa
/- THE CELL 'sum', in the pinned program and in every row, IS THE sha256 OF THE DUMP (.gsa) THAT YtlfpkjlaajfjnaaProg.lean LOADS. Nothing in Lean hashes anything: it is a label: what it is worth is what the hold of that sum in a sandbox is worth. -/
noncomputable def Try.pinned : Pinned := { name := "ytlfpkjlaajfjnaa", sum := "8012a83dd4ccb266ae3f5a06d2acaf5df79375e7c9be48dcc62f908d5f20a5f7", checked := Try.checked }
namespace Rows
def none {H : Type} : Left H := { results := [], args := [] }

/-- 'parterrelaw6.GeomAsks': WHATEVER THE INPUT: true; the input reads as it did. -/
def geomAsksSpec : ChangeSpec := { name := "geomAsks", fn := fun _ => fun
  | [d1, d2, d3, d4, d5, d6] => { results := [.lit (.bool true)], args := [d1, d2, d3, d4, d5, d6] }
  | _ => none }
def geomAsksRow : OpenClaim := { program := "ytlfpkjlaajfjnaa", sum := "8012a83dd4ccb266ae3f5a06d2acaf5df79375e7c9be48dcc62f908d5f20a5f7", func := "parterre/parterrelaw6.GeomAsks", spec := "geomAsks", apart := false }
def GeomAsksSaid : Prop := geomAsksRow.holds Try.pinned (OpenSpec.ofChange geomAsksSpec)

/-- ITS FALSE NEIGHBOUR: 'it returns false'. Refute it at one input. -/
def geomAsksWrong : ChangeSpec := { name := "geomAsks", fn := fun _ => fun
  | [d1, d2, d3, d4, d5, d6] => { results := [.lit (.bool false)], args := [d1, d2, d3, d4, d5, d6] }
  | _ => none }
def GeomAsksWrongFalsely : Prop := geomAsksRow.holds Try.pinned (OpenSpec.ofChange geomAsksWrong)

/-- 'parterrelaw6.GeomFar': WHATEVER THE INPUT: true; the input reads as it did. -/
def geomFarSpec : ChangeSpec := { name := "geomFar", fn := fun _ => fun
  | [d1, d2, d3] => { results := [.lit (.bool true)], args := [d1, d2, d3] }
  | _ => none }
def geomFarRow : OpenClaim := { program := "ytlfpkjlaajfjnaa", sum := "8012a83dd4ccb266ae3f5a06d2acaf5df79375e7c9be48dcc62f908d5f20a5f7", func := "parterre/parterrelaw6.GeomFar", spec := "geomFar", apart := false }
def GeomFarSaid : Prop := geomFarRow.holds Try.pinned (OpenSpec.ofChange geomFarSpec)

/-- ITS FALSE NEIGHBOUR: 'it returns false'. Refute it at one input. -/
def geomFarWrong : ChangeSpec := { name := "geomFar", fn := fun _ => fun
  | [d1, d2, d3] => { results := [.lit (.bool false)], args := [d1, d2, d3] }
  | _ => none }
def GeomFarWrongFalsely : Prop := geomFarRow.holds Try.pinned (OpenSpec.ofChange geomFarWrong)

/-- 'parterrelaw6.GeomMoved': WHATEVER THE INPUT: true; the input reads as it did. -/
def geomMovedSpec : ChangeSpec := { name := "geomMoved", fn := fun _ => fun
  | [d1, d2, d3, d4] => { results := [.lit (.bool true)], args := [d1, d2, d3, d4] }
  | _ => none }
def geomMovedRow : OpenClaim := { program := "ytlfpkjlaajfjnaa", sum := "8012a83dd4ccb266ae3f5a06d2acaf5df79375e7c9be48dcc62f908d5f20a5f7", func := "parterre/parterrelaw6.GeomMoved", spec := "geomMoved", apart := false }
def GeomMovedSaid : Prop := geomMovedRow.holds Try.pinned (OpenSpec.ofChange geomMovedSpec)

/-- ITS FALSE NEIGHBOUR: 'it returns false'. Refute it at one input. -/
def geomMovedWrong : ChangeSpec := { name := "geomMoved", fn := fun _ => fun
  | [d1, d2, d3, d4] => { results := [.lit (.bool false)], args := [d1, d2, d3, d4] }
  | _ => none }
def GeomMovedWrongFalsely : Prop := geomMovedRow.holds Try.pinned (OpenSpec.ofChange geomMovedWrong)

/-- 'parterrelaw6.GeomNear': WHATEVER THE INPUT: true; the input reads as it did. -/
def geomNearSpec : ChangeSpec := { name := "geomNear", fn := fun _ => fun
  | [d1, d2, d3, d4] => { results := [.lit (.bool true)], args := [d1, d2, d3, d4] }
  | _ => none }
def geomNearRow : OpenClaim := { program := "ytlfpkjlaajfjnaa", sum := "8012a83dd4ccb266ae3f5a06d2acaf5df79375e7c9be48dcc62f908d5f20a5f7", func := "parterre/parterrelaw6.GeomNear", spec := "geomNear", apart := false }
def GeomNearSaid : Prop := geomNearRow.holds Try.pinned (OpenSpec.ofChange geomNearSpec)

/-- ITS FALSE NEIGHBOUR: 'it returns false'. Refute it at one input. -/
def geomNearWrong : ChangeSpec := { name := "geomNear", fn := fun _ => fun
  | [d1, d2, d3, d4] => { results := [.lit (.bool false)], args := [d1, d2, d3, d4] }
  | _ => none }
def GeomNearWrongFalsely : Prop := geomNearRow.holds Try.pinned (OpenSpec.ofChange geomNearWrong)

/-- 'parterrelaw7.RunAsks': WHATEVER THE INPUT: true; the input reads as it did. -/
def runAsksSpec : ChangeSpec := { name := "runAsks", fn := fun _ => fun
  | [d1, d2, d3, d4] => { results := [.lit (.bool true)], args := [d1, d2, d3, d4] }
  | _ => none }
def runAsksRow : OpenClaim := { program := "ytlfpkjlaajfjnaa", sum := "8012a83dd4ccb266ae3f5a06d2acaf5df79375e7c9be48dcc62f908d5f20a5f7", func := "parterre/parterrelaw7.RunAsks", spec := "runAsks", apart := false }
def RunAsksSaid : Prop := runAsksRow.holds Try.pinned (OpenSpec.ofChange runAsksSpec)

/-- ITS FALSE NEIGHBOUR: 'it returns false'. Refute it at one input. -/
def runAsksWrong : ChangeSpec := { name := "runAsks", fn := fun _ => fun
  | [d1, d2, d3, d4] => { results := [.lit (.bool false)], args := [d1, d2, d3, d4] }
  | _ => none }
def RunAsksWrongFalsely : Prop := runAsksRow.holds Try.pinned (OpenSpec.ofChange runAsksWrong)

/-- 'parterrelaw7.RunPieces': WHATEVER THE INPUT: true; the input reads as it did. -/
def runPiecesSpec : ChangeSpec := { name := "runPieces", fn := fun _ => fun
  | [d1, d2] => { results := [.lit (.bool true)], args := [d1, d2] }
  | _ => none }
def runPiecesRow : OpenClaim := { program := "ytlfpkjlaajfjnaa", sum := "8012a83dd4ccb266ae3f5a06d2acaf5df79375e7c9be48dcc62f908d5f20a5f7", func := "parterre/parterrelaw7.RunPieces", spec := "runPieces", apart := false }
def RunPiecesSaid : Prop := runPiecesRow.holds Try.pinned (OpenSpec.ofChange runPiecesSpec)

/-- ITS FALSE NEIGHBOUR: 'it returns false'. Refute it at one input. -/
def runPiecesWrong : ChangeSpec := { name := "runPieces", fn := fun _ => fun
  | [d1, d2] => { results := [.lit (.bool false)], args := [d1, d2] }
  | _ => none }
def RunPiecesWrongFalsely : Prop := runPiecesRow.holds Try.pinned (OpenSpec.ofChange runPiecesWrong)

/-- 'parterrelaw7.RunOf': WHATEVER THE INPUT: true; the input reads as it did. -/
def runOfSpec : ChangeSpec := { name := "runOf", fn := fun _ => fun
  | [d1, d2, d3, d4] => { results := [.lit (.bool true)], args := [d1, d2, d3, d4] }
  | _ => none }
def runOfRow : OpenClaim := { program := "ytlfpkjlaajfjnaa", sum := "8012a83dd4ccb266ae3f5a06d2acaf5df79375e7c9be48dcc62f908d5f20a5f7", func := "parterre/parterrelaw7.RunOf", spec := "runOf", apart := false }
def RunOfSaid : Prop := runOfRow.holds Try.pinned (OpenSpec.ofChange runOfSpec)

/-- ITS FALSE NEIGHBOUR: 'it returns false'. Refute it at one input. -/
def runOfWrong : ChangeSpec := { name := "runOf", fn := fun _ => fun
  | [d1, d2, d3, d4] => { results := [.lit (.bool false)], args := [d1, d2, d3, d4] }
  | _ => none }
def RunOfWrongFalsely : Prop := runOfRow.holds Try.pinned (OpenSpec.ofChange runOfWrong)

/-- 'parterrelaw7.RunGap': WHATEVER THE INPUT: true; the input reads as it did. -/
def runGapSpec : ChangeSpec := { name := "runGap", fn := fun _ => fun
  | [d1, d2, d3] => { results := [.lit (.bool true)], args := [d1, d2, d3] }
  | _ => none }
def runGapRow : OpenClaim := { program := "ytlfpkjlaajfjnaa", sum := "8012a83dd4ccb266ae3f5a06d2acaf5df79375e7c9be48dcc62f908d5f20a5f7", func := "parterre/parterrelaw7.RunGap", spec := "runGap", apart := false }
def RunGapSaid : Prop := runGapRow.holds Try.pinned (OpenSpec.ofChange runGapSpec)

/-- ITS FALSE NEIGHBOUR: 'it returns false'. Refute it at one input. -/
def runGapWrong : ChangeSpec := { name := "runGap", fn := fun _ => fun
  | [d1, d2, d3] => { results := [.lit (.bool false)], args := [d1, d2, d3] }
  | _ => none }
def RunGapWrongFalsely : Prop := runGapRow.holds Try.pinned (OpenSpec.ofChange runGapWrong)

/-- 'parterrelaw8.KillAsks': WHATEVER THE INPUT: true; the input reads as it did. -/
def killAsksSpec : ChangeSpec := { name := "killAsks", fn := fun _ => fun
  | [d1, d2] => { results := [.lit (.bool true)], args := [d1, d2] }
  | _ => none }
def killAsksRow : OpenClaim := { program := "ytlfpkjlaajfjnaa", sum := "8012a83dd4ccb266ae3f5a06d2acaf5df79375e7c9be48dcc62f908d5f20a5f7", func := "parterre/parterrelaw8.KillAsks", spec := "killAsks", apart := false }
def KillAsksSaid : Prop := killAsksRow.holds Try.pinned (OpenSpec.ofChange killAsksSpec)

/-- ITS FALSE NEIGHBOUR: 'it returns false'. Refute it at one input. -/
def killAsksWrong : ChangeSpec := { name := "killAsks", fn := fun _ => fun
  | [d1, d2] => { results := [.lit (.bool false)], args := [d1, d2] }
  | _ => none }
def KillAsksWrongFalsely : Prop := killAsksRow.holds Try.pinned (OpenSpec.ofChange killAsksWrong)

/-- 'parterrelaw8.KillMore': WHATEVER THE INPUT: true; the input reads as it did. -/
def killMoreSpec : ChangeSpec := { name := "killMore", fn := fun _ => fun
  | [d1, d2, d3] => { results := [.lit (.bool true)], args := [d1, d2, d3] }
  | _ => none }
def killMoreRow : OpenClaim := { program := "ytlfpkjlaajfjnaa", sum := "8012a83dd4ccb266ae3f5a06d2acaf5df79375e7c9be48dcc62f908d5f20a5f7", func := "parterre/parterrelaw8.KillMore", spec := "killMore", apart := false }
def KillMoreSaid : Prop := killMoreRow.holds Try.pinned (OpenSpec.ofChange killMoreSpec)

/-- ITS FALSE NEIGHBOUR: 'it returns false'. Refute it at one input. -/
def killMoreWrong : ChangeSpec := { name := "killMore", fn := fun _ => fun
  | [d1, d2, d3] => { results := [.lit (.bool false)], args := [d1, d2, d3] }
  | _ => none }
def KillMoreWrongFalsely : Prop := killMoreRow.holds Try.pinned (OpenSpec.ofChange killMoreWrong)

/-- 'parterrelaw8.KillParts': WHATEVER THE INPUT: true; the input reads as it did. -/
def killPartsSpec : ChangeSpec := { name := "killParts", fn := fun _ => fun
  | [d1, d2] => { results := [.lit (.bool true)], args := [d1, d2] }
  | _ => none }
def killPartsRow : OpenClaim := { program := "ytlfpkjlaajfjnaa", sum := "8012a83dd4ccb266ae3f5a06d2acaf5df79375e7c9be48dcc62f908d5f20a5f7", func := "parterre/parterrelaw8.KillParts", spec := "killParts", apart := false }
def KillPartsSaid : Prop := killPartsRow.holds Try.pinned (OpenSpec.ofChange killPartsSpec)

/-- ITS FALSE NEIGHBOUR: 'it returns false'. Refute it at one input. -/
def killPartsWrong : ChangeSpec := { name := "killParts", fn := fun _ => fun
  | [d1, d2] => { results := [.lit (.bool false)], args := [d1, d2] }
  | _ => none }
def KillPartsWrongFalsely : Prop := killPartsRow.holds Try.pinned (OpenSpec.ofChange killPartsWrong)

/-- 'parterrelaw8.KillNear': WHATEVER THE INPUT: true; the input reads as it did. -/
def killNearSpec : ChangeSpec := { name := "killNear", fn := fun _ => fun
  | [d] => { results := [.lit (.bool true)], args := [d] }
  | _ => none }
def killNearRow : OpenClaim := { program := "ytlfpkjlaajfjnaa", sum := "8012a83dd4ccb266ae3f5a06d2acaf5df79375e7c9be48dcc62f908d5f20a5f7", func := "parterre/parterrelaw8.KillNear", spec := "killNear", apart := false }
def KillNearSaid : Prop := killNearRow.holds Try.pinned (OpenSpec.ofChange killNearSpec)

/-- ITS FALSE NEIGHBOUR: 'it returns false'. Refute it at one input. -/
def killNearWrong : ChangeSpec := { name := "killNear", fn := fun _ => fun
  | [d] => { results := [.lit (.bool false)], args := [d] }
  | _ => none }
def KillNearWrongFalsely : Prop := killNearRow.holds Try.pinned (OpenSpec.ofChange killNearWrong)

/-- 'parterrelaw11.PlaceLong': WHATEVER THE INPUT: true; the input reads as it did. -/
def placeLongSpec : ChangeSpec := { name := "placeLong", fn := fun _ => fun
  | [d1, d2] => { results := [.lit (.bool true)], args := [d1, d2] }
  | _ => none }
def placeLongRow : OpenClaim := { program := "ytlfpkjlaajfjnaa", sum := "8012a83dd4ccb266ae3f5a06d2acaf5df79375e7c9be48dcc62f908d5f20a5f7", func := "parterre/parterrelaw11.PlaceLong", spec := "placeLong", unfollowed := true, recurses := true, apart := false }
def PlaceLongSaid : Prop := placeLongRow.holds Try.pinned (OpenSpec.ofChange placeLongSpec)

/-- ITS FALSE NEIGHBOUR: 'it returns false'. Refute it at one input. -/
def placeLongWrong : ChangeSpec := { name := "placeLong", fn := fun _ => fun
  | [d1, d2] => { results := [.lit (.bool false)], args := [d1, d2] }
  | _ => none }
def PlaceLongWrongFalsely : Prop := placeLongRow.holds Try.pinned (OpenSpec.ofChange placeLongWrong)

/-- 'parterrelaw11.PlaceAsks': WHATEVER THE INPUT: true; the input reads as it did. -/
def placeAsksSpec : ChangeSpec := { name := "placeAsks", fn := fun _ => fun
  | [d1, d2, d3, d4, d5] => { results := [.lit (.bool true)], args := [d1, d2, d3, d4, d5] }
  | _ => none }
def placeAsksRow : OpenClaim := { program := "ytlfpkjlaajfjnaa", sum := "8012a83dd4ccb266ae3f5a06d2acaf5df79375e7c9be48dcc62f908d5f20a5f7", func := "parterre/parterrelaw11.PlaceAsks", spec := "placeAsks", unfollowed := true, recurses := true, apart := false }
def PlaceAsksSaid : Prop := placeAsksRow.holds Try.pinned (OpenSpec.ofChange placeAsksSpec)

/-- ITS FALSE NEIGHBOUR: 'it returns false'. Refute it at one input. -/
def placeAsksWrong : ChangeSpec := { name := "placeAsks", fn := fun _ => fun
  | [d1, d2, d3, d4, d5] => { results := [.lit (.bool false)], args := [d1, d2, d3, d4, d5] }
  | _ => none }
def PlaceAsksWrongFalsely : Prop := placeAsksRow.holds Try.pinned (OpenSpec.ofChange placeAsksWrong)

/-- 'parterrelaw11.PlaceApart': WHATEVER THE INPUT: true; the input reads as it did. -/
def placeApartSpec : ChangeSpec := { name := "placeApart", fn := fun _ => fun
  | [d1, d2, d3, d4, d5] => { results := [.lit (.bool true)], args := [d1, d2, d3, d4, d5] }
  | _ => none }
def placeApartRow : OpenClaim := { program := "ytlfpkjlaajfjnaa", sum := "8012a83dd4ccb266ae3f5a06d2acaf5df79375e7c9be48dcc62f908d5f20a5f7", func := "parterre/parterrelaw11.PlaceApart", spec := "placeApart", unfollowed := true, recurses := true, apart := false }
def PlaceApartSaid : Prop := placeApartRow.holds Try.pinned (OpenSpec.ofChange placeApartSpec)

/-- ITS FALSE NEIGHBOUR: 'it returns false'. Refute it at one input. -/
def placeApartWrong : ChangeSpec := { name := "placeApart", fn := fun _ => fun
  | [d1, d2, d3, d4, d5] => { results := [.lit (.bool false)], args := [d1, d2, d3, d4, d5] }
  | _ => none }
def PlaceApartWrongFalsely : Prop := placeApartRow.holds Try.pinned (OpenSpec.ofChange placeApartWrong)

/-- 'parterrelaw11.PlaceKilled': WHATEVER THE INPUT: true; the input reads as it did. -/
def placeKilledSpec : ChangeSpec := { name := "placeKilled", fn := fun _ => fun
  | [d1, d2, d3] => { results := [.lit (.bool true)], args := [d1, d2, d3] }
  | _ => none }
def placeKilledRow : OpenClaim := { program := "ytlfpkjlaajfjnaa", sum := "8012a83dd4ccb266ae3f5a06d2acaf5df79375e7c9be48dcc62f908d5f20a5f7", func := "parterre/parterrelaw11.PlaceKilled", spec := "placeKilled", unfollowed := true, recurses := true, apart := false }
def PlaceKilledSaid : Prop := placeKilledRow.holds Try.pinned (OpenSpec.ofChange placeKilledSpec)

/-- ITS FALSE NEIGHBOUR: 'it returns false'. Refute it at one input. -/
def placeKilledWrong : ChangeSpec := { name := "placeKilled", fn := fun _ => fun
  | [d1, d2, d3] => { results := [.lit (.bool false)], args := [d1, d2, d3] }
  | _ => none }
def PlaceKilledWrongFalsely : Prop := placeKilledRow.holds Try.pinned (OpenSpec.ofChange placeKilledWrong)

/-- 'parterrelaw11.PlaceRadius': WHATEVER THE INPUT: true; the input reads as it did. -/
def placeRadiusSpec : ChangeSpec := { name := "placeRadius", fn := fun _ => fun
  | [d1, d2, d3, d4, d5, d6] => { results := [.lit (.bool true)], args := [d1, d2, d3, d4, d5, d6] }
  | _ => none }
def placeRadiusRow : OpenClaim := { program := "ytlfpkjlaajfjnaa", sum := "8012a83dd4ccb266ae3f5a06d2acaf5df79375e7c9be48dcc62f908d5f20a5f7", func := "parterre/parterrelaw11.PlaceRadius", spec := "placeRadius", unfollowed := true, recurses := true, apart := false }
def PlaceRadiusSaid : Prop := placeRadiusRow.holds Try.pinned (OpenSpec.ofChange placeRadiusSpec)

/-- ITS FALSE NEIGHBOUR: 'it returns false'. Refute it at one input. -/
def placeRadiusWrong : ChangeSpec := { name := "placeRadius", fn := fun _ => fun
  | [d1, d2, d3, d4, d5, d6] => { results := [.lit (.bool false)], args := [d1, d2, d3, d4, d5, d6] }
  | _ => none }
def PlaceRadiusWrongFalsely : Prop := placeRadiusRow.holds Try.pinned (OpenSpec.ofChange placeRadiusWrong)

/-- 'parterrelaw12.PlanPins': WHATEVER THE INPUT: true; the input reads as it did. -/
def planPinsSpec : ChangeSpec := { name := "planPins", fn := fun _ => fun
  | [d1, d2, d3] => { results := [.lit (.bool true)], args := [d1, d2, d3] }
  | _ => none }
def planPinsRow : OpenClaim := { program := "ytlfpkjlaajfjnaa", sum := "8012a83dd4ccb266ae3f5a06d2acaf5df79375e7c9be48dcc62f908d5f20a5f7", func := "parterre/parterrelaw12.PlanPins", spec := "planPins", unfollowed := true, recurses := true, apart := false }
def PlanPinsSaid : Prop := planPinsRow.holds Try.pinned (OpenSpec.ofChange planPinsSpec)

/-- ITS FALSE NEIGHBOUR: 'it returns false'. Refute it at one input. -/
def planPinsWrong : ChangeSpec := { name := "planPins", fn := fun _ => fun
  | [d1, d2, d3] => { results := [.lit (.bool false)], args := [d1, d2, d3] }
  | _ => none }
def PlanPinsWrongFalsely : Prop := planPinsRow.holds Try.pinned (OpenSpec.ofChange planPinsWrong)

/-- 'parterrelaw12.PlanLess': WHATEVER THE INPUT: true; the input reads as it did. -/
def planLessSpec : ChangeSpec := { name := "planLess", fn := fun _ => fun
  | [d1, d2, d3, d4, d5] => { results := [.lit (.bool true)], args := [d1, d2, d3, d4, d5] }
  | _ => none }
def planLessRow : OpenClaim := { program := "ytlfpkjlaajfjnaa", sum := "8012a83dd4ccb266ae3f5a06d2acaf5df79375e7c9be48dcc62f908d5f20a5f7", func := "parterre/parterrelaw12.PlanLess", spec := "planLess", unfollowed := true, recurses := true, apart := false }
def PlanLessSaid : Prop := planLessRow.holds Try.pinned (OpenSpec.ofChange planLessSpec)

/-- ITS FALSE NEIGHBOUR: 'it returns false'. Refute it at one input. -/
def planLessWrong : ChangeSpec := { name := "planLess", fn := fun _ => fun
  | [d1, d2, d3, d4, d5] => { results := [.lit (.bool false)], args := [d1, d2, d3, d4, d5] }
  | _ => none }
def PlanLessWrongFalsely : Prop := planLessRow.holds Try.pinned (OpenSpec.ofChange planLessWrong)

/-- 'parterrelaw12.PlanOwners': WHATEVER THE INPUT: true; the input reads as it did. -/
def planOwnersSpec : ChangeSpec := { name := "planOwners", fn := fun _ => fun
  | [d1, d2, d3] => { results := [.lit (.bool true)], args := [d1, d2, d3] }
  | _ => none }
def planOwnersRow : OpenClaim := { program := "ytlfpkjlaajfjnaa", sum := "8012a83dd4ccb266ae3f5a06d2acaf5df79375e7c9be48dcc62f908d5f20a5f7", func := "parterre/parterrelaw12.PlanOwners", spec := "planOwners", unfollowed := true, recurses := true, apart := false }
def PlanOwnersSaid : Prop := planOwnersRow.holds Try.pinned (OpenSpec.ofChange planOwnersSpec)

/-- ITS FALSE NEIGHBOUR: 'it returns false'. Refute it at one input. -/
def planOwnersWrong : ChangeSpec := { name := "planOwners", fn := fun _ => fun
  | [d1, d2, d3] => { results := [.lit (.bool false)], args := [d1, d2, d3] }
  | _ => none }
def PlanOwnersWrongFalsely : Prop := planOwnersRow.holds Try.pinned (OpenSpec.ofChange planOwnersWrong)

/-- 'parterrelaw12.PlanSeats': WHATEVER THE INPUT: true; the input reads as it did. -/
def planSeatsSpec : ChangeSpec := { name := "planSeats", fn := fun _ => fun
  | [d1, d2, d3] => { results := [.lit (.bool true)], args := [d1, d2, d3] }
  | _ => none }
def planSeatsRow : OpenClaim := { program := "ytlfpkjlaajfjnaa", sum := "8012a83dd4ccb266ae3f5a06d2acaf5df79375e7c9be48dcc62f908d5f20a5f7", func := "parterre/parterrelaw12.PlanSeats", spec := "planSeats", unfollowed := true, recurses := true, apart := false }
def PlanSeatsSaid : Prop := planSeatsRow.holds Try.pinned (OpenSpec.ofChange planSeatsSpec)

/-- ITS FALSE NEIGHBOUR: 'it returns false'. Refute it at one input. -/
def planSeatsWrong : ChangeSpec := { name := "planSeats", fn := fun _ => fun
  | [d1, d2, d3] => { results := [.lit (.bool false)], args := [d1, d2, d3] }
  | _ => none }
def PlanSeatsWrongFalsely : Prop := planSeatsRow.holds Try.pinned (OpenSpec.ofChange planSeatsWrong)

/-- 'parterrelaw13.BoundAsks': WHATEVER THE INPUT: true; the input reads as it did. -/
def boundAsksSpec : ChangeSpec := { name := "boundAsks", fn := fun _ => fun
  | [d1, d2, d3, d4, d5, d6] => { results := [.lit (.bool true)], args := [d1, d2, d3, d4, d5, d6] }
  | _ => none }
def boundAsksRow : OpenClaim := { program := "ytlfpkjlaajfjnaa", sum := "8012a83dd4ccb266ae3f5a06d2acaf5df79375e7c9be48dcc62f908d5f20a5f7", func := "parterre/parterrelaw13.BoundAsks", spec := "boundAsks", unfollowed := true, recurses := true, apart := false }
def BoundAsksSaid : Prop := boundAsksRow.holds Try.pinned (OpenSpec.ofChange boundAsksSpec)

/-- ITS FALSE NEIGHBOUR: 'it returns false'. Refute it at one input. -/
def boundAsksWrong : ChangeSpec := { name := "boundAsks", fn := fun _ => fun
  | [d1, d2, d3, d4, d5, d6] => { results := [.lit (.bool false)], args := [d1, d2, d3, d4, d5, d6] }
  | _ => none }
def BoundAsksWrongFalsely : Prop := boundAsksRow.holds Try.pinned (OpenSpec.ofChange boundAsksWrong)

/-- 'parterrelaw13.BoundMost': WHATEVER THE INPUT: true; the input reads as it did. -/
def boundMostSpec : ChangeSpec := { name := "boundMost", fn := fun _ => fun
  | [d1, d2, d3, d4, d5] => { results := [.lit (.bool true)], args := [d1, d2, d3, d4, d5] }
  | _ => none }
def boundMostRow : OpenClaim := { program := "ytlfpkjlaajfjnaa", sum := "8012a83dd4ccb266ae3f5a06d2acaf5df79375e7c9be48dcc62f908d5f20a5f7", func := "parterre/parterrelaw13.BoundMost", spec := "boundMost", unfollowed := true, recurses := true, apart := false }
def BoundMostSaid : Prop := boundMostRow.holds Try.pinned (OpenSpec.ofChange boundMostSpec)

/-- ITS FALSE NEIGHBOUR: 'it returns false'. Refute it at one input. -/
def boundMostWrong : ChangeSpec := { name := "boundMost", fn := fun _ => fun
  | [d1, d2, d3, d4, d5] => { results := [.lit (.bool false)], args := [d1, d2, d3, d4, d5] }
  | _ => none }
def BoundMostWrongFalsely : Prop := boundMostRow.holds Try.pinned (OpenSpec.ofChange boundMostWrong)

/-- 'parterrelaw13.BoundOpen': WHATEVER THE INPUT: true; the input reads as it did. -/
def boundOpenSpec : ChangeSpec := { name := "boundOpen", fn := fun _ => fun
  | [d1, d2, d3] => { results := [.lit (.bool true)], args := [d1, d2, d3] }
  | _ => none }
def boundOpenRow : OpenClaim := { program := "ytlfpkjlaajfjnaa", sum := "8012a83dd4ccb266ae3f5a06d2acaf5df79375e7c9be48dcc62f908d5f20a5f7", func := "parterre/parterrelaw13.BoundOpen", spec := "boundOpen", unfollowed := true, recurses := true, apart := false }
def BoundOpenSaid : Prop := boundOpenRow.holds Try.pinned (OpenSpec.ofChange boundOpenSpec)

/-- ITS FALSE NEIGHBOUR: 'it returns false'. Refute it at one input. -/
def boundOpenWrong : ChangeSpec := { name := "boundOpen", fn := fun _ => fun
  | [d1, d2, d3] => { results := [.lit (.bool false)], args := [d1, d2, d3] }
  | _ => none }
def BoundOpenWrongFalsely : Prop := boundOpenRow.holds Try.pinned (OpenSpec.ofChange boundOpenWrong)

/-- 'parterrelaw13.BoundPins': WHATEVER THE INPUT: true; the input reads as it did. -/
def boundPinsSpec : ChangeSpec := { name := "boundPins", fn := fun _ => fun
  | [d1, d2, d3, d4, d5] => { results := [.lit (.bool true)], args := [d1, d2, d3, d4, d5] }
  | _ => none }
def boundPinsRow : OpenClaim := { program := "ytlfpkjlaajfjnaa", sum := "8012a83dd4ccb266ae3f5a06d2acaf5df79375e7c9be48dcc62f908d5f20a5f7", func := "parterre/parterrelaw13.BoundPins", spec := "boundPins", unfollowed := true, recurses := true, apart := false }
def BoundPinsSaid : Prop := boundPinsRow.holds Try.pinned (OpenSpec.ofChange boundPinsSpec)

/-- ITS FALSE NEIGHBOUR: 'it returns false'. Refute it at one input. -/
def boundPinsWrong : ChangeSpec := { name := "boundPins", fn := fun _ => fun
  | [d1, d2, d3, d4, d5] => { results := [.lit (.bool false)], args := [d1, d2, d3, d4, d5] }
  | _ => none }
def BoundPinsWrongFalsely : Prop := boundPinsRow.holds Try.pinned (OpenSpec.ofChange boundPinsWrong)

/- THE SECOND FORM. 'bulk': how many values and letters a reading holds, each counted each time it is reached (what is shared counts as often as it is met; a slice's spare places count too). A statement '..UptoSaid' is the law's where the arguments, and the package variables that the reading takes, are together of bulk at most 1048576: NARROWER than '..Said'. Prove '..Said' where nothing that the law and all that it calls make is longer than what came in: it says more and counts as full. Else prove '..UptoSaid'. A law counts once. -/
mutual
def uptoBulk {H : Type} : DataW H → Nat
  | .lit (.string bytes) => bytes.length + 1
  | .lit _ => 1
  | .nil => 1
  | .ptr d => uptoBulk d + 1
  | .slice elems spare => uptoBulkAll elems + uptoBulkAll spare + 1
  | .agg parts => uptoBulkAll parts + 1
  | .iface _ d => uptoBulk d + 1
  | .map entries => uptoBulkEntries entries + 1
  | .held _ => 1
def uptoBulkAll {H : Type} : List (DataW H) → Nat
  | [] => 0
  | d :: r => uptoBulk d + uptoBulkAll r
def uptoBulkEntries {H : Type} : List (Lit × DataW H) → Nat
  | [] => 0
  | x :: r => uptoBulkEntry x + uptoBulkEntries r
def uptoBulkEntry {H : Type} : Lit × DataW H → Nat
  | (.string bytes, d) => bytes.length + uptoBulk d + 1
  | (_, d) => uptoBulk d + 1
 end
def uptoSmall : (H : Type) → List (DataW H) → Bool := fun _ ds => decide (uptoBulkAll ds ≤ 1048576)
def OpenSpec.upto (s : _root_.Go.ChangeSpec) : _root_.Go.OpenSpec := { _root_.Go.OpenSpec.ofChange s with cond := some uptoSmall }

/-- 'parterrelaw6.GeomAsks', WHERE WHAT IT READS IS OF BULK AT MOST 1048576: true; the input reads as it did. -/
def geomAsksUptoRow : OpenClaim := { program := "ytlfpkjlaajfjnaa", sum := "8012a83dd4ccb266ae3f5a06d2acaf5df79375e7c9be48dcc62f908d5f20a5f7", func := "parterre/parterrelaw6.GeomAsks", spec := "geomAsks", apart := false, narrowed := true }
def GeomAsksUptoSaid : Prop := geomAsksUptoRow.holds Try.pinned (OpenSpec.upto geomAsksSpec)

/-- 'parterrelaw6.GeomFar', WHERE WHAT IT READS IS OF BULK AT MOST 1048576: true; the input reads as it did. -/
def geomFarUptoRow : OpenClaim := { program := "ytlfpkjlaajfjnaa", sum := "8012a83dd4ccb266ae3f5a06d2acaf5df79375e7c9be48dcc62f908d5f20a5f7", func := "parterre/parterrelaw6.GeomFar", spec := "geomFar", apart := false, narrowed := true }
def GeomFarUptoSaid : Prop := geomFarUptoRow.holds Try.pinned (OpenSpec.upto geomFarSpec)

/-- 'parterrelaw6.GeomMoved', WHERE WHAT IT READS IS OF BULK AT MOST 1048576: true; the input reads as it did. -/
def geomMovedUptoRow : OpenClaim := { program := "ytlfpkjlaajfjnaa", sum := "8012a83dd4ccb266ae3f5a06d2acaf5df79375e7c9be48dcc62f908d5f20a5f7", func := "parterre/parterrelaw6.GeomMoved", spec := "geomMoved", apart := false, narrowed := true }
def GeomMovedUptoSaid : Prop := geomMovedUptoRow.holds Try.pinned (OpenSpec.upto geomMovedSpec)

/-- 'parterrelaw6.GeomNear', WHERE WHAT IT READS IS OF BULK AT MOST 1048576: true; the input reads as it did. -/
def geomNearUptoRow : OpenClaim := { program := "ytlfpkjlaajfjnaa", sum := "8012a83dd4ccb266ae3f5a06d2acaf5df79375e7c9be48dcc62f908d5f20a5f7", func := "parterre/parterrelaw6.GeomNear", spec := "geomNear", apart := false, narrowed := true }
def GeomNearUptoSaid : Prop := geomNearUptoRow.holds Try.pinned (OpenSpec.upto geomNearSpec)

/-- 'parterrelaw7.RunAsks', WHERE WHAT IT READS IS OF BULK AT MOST 1048576: true; the input reads as it did. -/
def runAsksUptoRow : OpenClaim := { program := "ytlfpkjlaajfjnaa", sum := "8012a83dd4ccb266ae3f5a06d2acaf5df79375e7c9be48dcc62f908d5f20a5f7", func := "parterre/parterrelaw7.RunAsks", spec := "runAsks", apart := false, narrowed := true }
def RunAsksUptoSaid : Prop := runAsksUptoRow.holds Try.pinned (OpenSpec.upto runAsksSpec)

/-- 'parterrelaw7.RunPieces', WHERE WHAT IT READS IS OF BULK AT MOST 1048576: true; the input reads as it did. -/
def runPiecesUptoRow : OpenClaim := { program := "ytlfpkjlaajfjnaa", sum := "8012a83dd4ccb266ae3f5a06d2acaf5df79375e7c9be48dcc62f908d5f20a5f7", func := "parterre/parterrelaw7.RunPieces", spec := "runPieces", apart := false, narrowed := true }
def RunPiecesUptoSaid : Prop := runPiecesUptoRow.holds Try.pinned (OpenSpec.upto runPiecesSpec)

/-- 'parterrelaw7.RunOf', WHERE WHAT IT READS IS OF BULK AT MOST 1048576: true; the input reads as it did. -/
def runOfUptoRow : OpenClaim := { program := "ytlfpkjlaajfjnaa", sum := "8012a83dd4ccb266ae3f5a06d2acaf5df79375e7c9be48dcc62f908d5f20a5f7", func := "parterre/parterrelaw7.RunOf", spec := "runOf", apart := false, narrowed := true }
def RunOfUptoSaid : Prop := runOfUptoRow.holds Try.pinned (OpenSpec.upto runOfSpec)

/-- 'parterrelaw7.RunGap', WHERE WHAT IT READS IS OF BULK AT MOST 1048576: true; the input reads as it did. -/
def runGapUptoRow : OpenClaim := { program := "ytlfpkjlaajfjnaa", sum := "8012a83dd4ccb266ae3f5a06d2acaf5df79375e7c9be48dcc62f908d5f20a5f7", func := "parterre/parterrelaw7.RunGap", spec := "runGap", apart := false, narrowed := true }
def RunGapUptoSaid : Prop := runGapUptoRow.holds Try.pinned (OpenSpec.upto runGapSpec)

/-- 'parterrelaw8.KillAsks', WHERE WHAT IT READS IS OF BULK AT MOST 1048576: true; the input reads as it did. -/
def killAsksUptoRow : OpenClaim := { program := "ytlfpkjlaajfjnaa", sum := "8012a83dd4ccb266ae3f5a06d2acaf5df79375e7c9be48dcc62f908d5f20a5f7", func := "parterre/parterrelaw8.KillAsks", spec := "killAsks", apart := false, narrowed := true }
def KillAsksUptoSaid : Prop := killAsksUptoRow.holds Try.pinned (OpenSpec.upto killAsksSpec)

/-- 'parterrelaw8.KillMore', WHERE WHAT IT READS IS OF BULK AT MOST 1048576: true; the input reads as it did. -/
def killMoreUptoRow : OpenClaim := { program := "ytlfpkjlaajfjnaa", sum := "8012a83dd4ccb266ae3f5a06d2acaf5df79375e7c9be48dcc62f908d5f20a5f7", func := "parterre/parterrelaw8.KillMore", spec := "killMore", apart := false, narrowed := true }
def KillMoreUptoSaid : Prop := killMoreUptoRow.holds Try.pinned (OpenSpec.upto killMoreSpec)

/-- 'parterrelaw8.KillParts', WHERE WHAT IT READS IS OF BULK AT MOST 1048576: true; the input reads as it did. -/
def killPartsUptoRow : OpenClaim := { program := "ytlfpkjlaajfjnaa", sum := "8012a83dd4ccb266ae3f5a06d2acaf5df79375e7c9be48dcc62f908d5f20a5f7", func := "parterre/parterrelaw8.KillParts", spec := "killParts", apart := false, narrowed := true }
def KillPartsUptoSaid : Prop := killPartsUptoRow.holds Try.pinned (OpenSpec.upto killPartsSpec)

/-- 'parterrelaw8.KillNear', WHERE WHAT IT READS IS OF BULK AT MOST 1048576: true; the input reads as it did. -/
def killNearUptoRow : OpenClaim := { program := "ytlfpkjlaajfjnaa", sum := "8012a83dd4ccb266ae3f5a06d2acaf5df79375e7c9be48dcc62f908d5f20a5f7", func := "parterre/parterrelaw8.KillNear", spec := "killNear", apart := false, narrowed := true }
def KillNearUptoSaid : Prop := killNearUptoRow.holds Try.pinned (OpenSpec.upto killNearSpec)

/-- 'parterrelaw11.PlaceLong', WHERE WHAT IT READS IS OF BULK AT MOST 1048576: true; the input reads as it did. -/
def placeLongUptoRow : OpenClaim := { program := "ytlfpkjlaajfjnaa", sum := "8012a83dd4ccb266ae3f5a06d2acaf5df79375e7c9be48dcc62f908d5f20a5f7", func := "parterre/parterrelaw11.PlaceLong", spec := "placeLong", unfollowed := true, recurses := true, apart := false, narrowed := true }
def PlaceLongUptoSaid : Prop := placeLongUptoRow.holds Try.pinned (OpenSpec.upto placeLongSpec)

/-- 'parterrelaw11.PlaceAsks', WHERE WHAT IT READS IS OF BULK AT MOST 1048576: true; the input reads as it did. -/
def placeAsksUptoRow : OpenClaim := { program := "ytlfpkjlaajfjnaa", sum := "8012a83dd4ccb266ae3f5a06d2acaf5df79375e7c9be48dcc62f908d5f20a5f7", func := "parterre/parterrelaw11.PlaceAsks", spec := "placeAsks", unfollowed := true, recurses := true, apart := false, narrowed := true }
def PlaceAsksUptoSaid : Prop := placeAsksUptoRow.holds Try.pinned (OpenSpec.upto placeAsksSpec)

/-- 'parterrelaw11.PlaceApart', WHERE WHAT IT READS IS OF BULK AT MOST 1048576: true; the input reads as it did. -/
def placeApartUptoRow : OpenClaim := { program := "ytlfpkjlaajfjnaa", sum := "8012a83dd4ccb266ae3f5a06d2acaf5df79375e7c9be48dcc62f908d5f20a5f7", func := "parterre/parterrelaw11.PlaceApart", spec := "placeApart", unfollowed := true, recurses := true, apart := false, narrowed := true }
def PlaceApartUptoSaid : Prop := placeApartUptoRow.holds Try.pinned (OpenSpec.upto placeApartSpec)

/-- 'parterrelaw11.PlaceKilled', WHERE WHAT IT READS IS OF BULK AT MOST 1048576: true; the input reads as it did. -/
def placeKilledUptoRow : OpenClaim := { program := "ytlfpkjlaajfjnaa", sum := "8012a83dd4ccb266ae3f5a06d2acaf5df79375e7c9be48dcc62f908d5f20a5f7", func := "parterre/parterrelaw11.PlaceKilled", spec := "placeKilled", unfollowed := true, recurses := true, apart := false, narrowed := true }
def PlaceKilledUptoSaid : Prop := placeKilledUptoRow.holds Try.pinned (OpenSpec.upto placeKilledSpec)

/-- 'parterrelaw11.PlaceRadius', WHERE WHAT IT READS IS OF BULK AT MOST 1048576: true; the input reads as it did. -/
def placeRadiusUptoRow : OpenClaim := { program := "ytlfpkjlaajfjnaa", sum := "8012a83dd4ccb266ae3f5a06d2acaf5df79375e7c9be48dcc62f908d5f20a5f7", func := "parterre/parterrelaw11.PlaceRadius", spec := "placeRadius", unfollowed := true, recurses := true, apart := false, narrowed := true }
def PlaceRadiusUptoSaid : Prop := placeRadiusUptoRow.holds Try.pinned (OpenSpec.upto placeRadiusSpec)

/-- 'parterrelaw12.PlanPins', WHERE WHAT IT READS IS OF BULK AT MOST 1048576: true; the input reads as it did. -/
def planPinsUptoRow : OpenClaim := { program := "ytlfpkjlaajfjnaa", sum := "8012a83dd4ccb266ae3f5a06d2acaf5df79375e7c9be48dcc62f908d5f20a5f7", func := "parterre/parterrelaw12.PlanPins", spec := "planPins", unfollowed := true, recurses := true, apart := false, narrowed := true }
def PlanPinsUptoSaid : Prop := planPinsUptoRow.holds Try.pinned (OpenSpec.upto planPinsSpec)

/-- 'parterrelaw12.PlanLess', WHERE WHAT IT READS IS OF BULK AT MOST 1048576: true; the input reads as it did. -/
def planLessUptoRow : OpenClaim := { program := "ytlfpkjlaajfjnaa", sum := "8012a83dd4ccb266ae3f5a06d2acaf5df79375e7c9be48dcc62f908d5f20a5f7", func := "parterre/parterrelaw12.PlanLess", spec := "planLess", unfollowed := true, recurses := true, apart := false, narrowed := true }
def PlanLessUptoSaid : Prop := planLessUptoRow.holds Try.pinned (OpenSpec.upto planLessSpec)

/-- 'parterrelaw12.PlanOwners', WHERE WHAT IT READS IS OF BULK AT MOST 1048576: true; the input reads as it did. -/
def planOwnersUptoRow : OpenClaim := { program := "ytlfpkjlaajfjnaa", sum := "8012a83dd4ccb266ae3f5a06d2acaf5df79375e7c9be48dcc62f908d5f20a5f7", func := "parterre/parterrelaw12.PlanOwners", spec := "planOwners", unfollowed := true, recurses := true, apart := false, narrowed := true }
def PlanOwnersUptoSaid : Prop := planOwnersUptoRow.holds Try.pinned (OpenSpec.upto planOwnersSpec)

/-- 'parterrelaw12.PlanSeats', WHERE WHAT IT READS IS OF BULK AT MOST 1048576: true; the input reads as it did. -/
def planSeatsUptoRow : OpenClaim := { program := "ytlfpkjlaajfjnaa", sum := "8012a83dd4ccb266ae3f5a06d2acaf5df79375e7c9be48dcc62f908d5f20a5f7", func := "parterre/parterrelaw12.PlanSeats", spec := "planSeats", unfollowed := true, recurses := true, apart := false, narrowed := true }
def PlanSeatsUptoSaid : Prop := planSeatsUptoRow.holds Try.pinned (OpenSpec.upto planSeatsSpec)

/-- 'parterrelaw13.BoundAsks', WHERE WHAT IT READS IS OF BULK AT MOST 1048576: true; the input reads as it did. -/
def boundAsksUptoRow : OpenClaim := { program := "ytlfpkjlaajfjnaa", sum := "8012a83dd4ccb266ae3f5a06d2acaf5df79375e7c9be48dcc62f908d5f20a5f7", func := "parterre/parterrelaw13.BoundAsks", spec := "boundAsks", unfollowed := true, recurses := true, apart := false, narrowed := true }
def BoundAsksUptoSaid : Prop := boundAsksUptoRow.holds Try.pinned (OpenSpec.upto boundAsksSpec)

/-- 'parterrelaw13.BoundMost', WHERE WHAT IT READS IS OF BULK AT MOST 1048576: true; the input reads as it did. -/
def boundMostUptoRow : OpenClaim := { program := "ytlfpkjlaajfjnaa", sum := "8012a83dd4ccb266ae3f5a06d2acaf5df79375e7c9be48dcc62f908d5f20a5f7", func := "parterre/parterrelaw13.BoundMost", spec := "boundMost", unfollowed := true, recurses := true, apart := false, narrowed := true }
def BoundMostUptoSaid : Prop := boundMostUptoRow.holds Try.pinned (OpenSpec.upto boundMostSpec)

/-- 'parterrelaw13.BoundOpen', WHERE WHAT IT READS IS OF BULK AT MOST 1048576: true; the input reads as it did. -/
def boundOpenUptoRow : OpenClaim := { program := "ytlfpkjlaajfjnaa", sum := "8012a83dd4ccb266ae3f5a06d2acaf5df79375e7c9be48dcc62f908d5f20a5f7", func := "parterre/parterrelaw13.BoundOpen", spec := "boundOpen", unfollowed := true, recurses := true, apart := false, narrowed := true }
def BoundOpenUptoSaid : Prop := boundOpenUptoRow.holds Try.pinned (OpenSpec.upto boundOpenSpec)

/-- 'parterrelaw13.BoundPins', WHERE WHAT IT READS IS OF BULK AT MOST 1048576: true; the input reads as it did. -/
def boundPinsUptoRow : OpenClaim := { program := "ytlfpkjlaajfjnaa", sum := "8012a83dd4ccb266ae3f5a06d2acaf5df79375e7c9be48dcc62f908d5f20a5f7", func := "parterre/parterrelaw13.BoundPins", spec := "boundPins", unfollowed := true, recurses := true, apart := false, narrowed := true }
def BoundPinsUptoSaid : Prop := boundPinsUptoRow.holds Try.pinned (OpenSpec.upto boundPinsSpec)

end Rows
end Go.Proofs.Ytlfpkjlaajfjnaa
