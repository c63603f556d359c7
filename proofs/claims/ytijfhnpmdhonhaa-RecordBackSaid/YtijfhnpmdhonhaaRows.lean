/-
  No cell of these rows narrows 'for every input' (looked for: loops, veiled, ifaces, maps, wideKeys, modest, calm, conditions, laid).
  DERIVED. THE GIVEN ROWS OF THIS SEAT. 11 by the template 'for every input the law returns true; each argument reads behind the call as it read before'; 0 by the template 'total and deterministic' (their statements: YtijfhnpmdhonhaaTotals.lean).
  GIVEN WITH THE SEED: the statements are not yours to turn. If you find one false, say at which input.
  Laid BY PROGRAM, IN A SANDBOX (cutbox-rows.mjs): the forced cells as the released guide's own fill.sh prints them over the translation 85cc963daf0b309b… (all of the seat's roots in one cut). By AI agents, Wed Nov 11 2026. No macro, syntax, notation, axiom, sorry.
-/
import Derived.Test.YtijfhnpmdhonhaaChecked
import GoSem.Claim
import GoSem.ClaimJoined
import GoSem.ClaimMapViews
import Derived.JoinedTies
import Derived.KernelRfl
namespace Go.Proofs.Ytijfhnpmdhonhaa
/- THE CELL 'sum', in the pinned program and in every row, IS THE sha256 OF THE DUMP (.gsa) THAT YtijfhnpmdhonhaaProg.lean LOADS. Nothing in Lean hashes anything: it is a label: what it is worth is what the hold of that sum in a sandbox is worth. -/
noncomputable def Try.pinned : Pinned := { name := "ytijfhnpmdhonhaa", sum := "85cc963daf0b309bfd91836a5c89e1a43e8ade006195dbf6a95977300e9ebeac", checked := Try.checked }
namespace Rows
def none {H : Type} : Left H := { results := [], args := [] }

/-- 'parterrelaw10.PartyAsks': WHATEVER THE INPUT: true; the input reads as it did. -/
def partyAsksSpec : ChangeSpec := { name := "partyAsks", fn := fun _ => fun
  | [d1, d2, d3] => { results := [.lit (.bool true)], args := [d1, d2, d3] }
  | _ => none }
def partyAsksRow : OpenClaim := { program := "ytijfhnpmdhonhaa", sum := "85cc963daf0b309bfd91836a5c89e1a43e8ade006195dbf6a95977300e9ebeac", func := "parterre/parterrelaw10.PartyAsks", spec := "partyAsks", unfollowed := true, recurses := true, apart := false }
def PartyAsksSaid : Prop := partyAsksRow.holds Try.pinned (OpenSpec.ofChange partyAsksSpec)

/-- ITS FALSE NEIGHBOUR: 'it returns false'. Refute it at one input. -/
def partyAsksWrong : ChangeSpec := { name := "partyAsks", fn := fun _ => fun
  | [d1, d2, d3] => { results := [.lit (.bool false)], args := [d1, d2, d3] }
  | _ => none }
def PartyAsksWrongFalsely : Prop := partyAsksRow.holds Try.pinned (OpenSpec.ofChange partyAsksWrong)

/-- 'parterrelaw10.PartyAll': WHATEVER THE INPUT: true; the input reads as it did. -/
def partyAllSpec : ChangeSpec := { name := "partyAll", fn := fun _ => fun
  | [d1, d2] => { results := [.lit (.bool true)], args := [d1, d2] }
  | _ => none }
def partyAllRow : OpenClaim := { program := "ytijfhnpmdhonhaa", sum := "85cc963daf0b309bfd91836a5c89e1a43e8ade006195dbf6a95977300e9ebeac", func := "parterre/parterrelaw10.PartyAll", spec := "partyAll", unfollowed := true, recurses := true, apart := false }
def PartyAllSaid : Prop := partyAllRow.holds Try.pinned (OpenSpec.ofChange partyAllSpec)

/-- ITS FALSE NEIGHBOUR: 'it returns false'. Refute it at one input. -/
def partyAllWrong : ChangeSpec := { name := "partyAll", fn := fun _ => fun
  | [d1, d2] => { results := [.lit (.bool false)], args := [d1, d2] }
  | _ => none }
def PartyAllWrongFalsely : Prop := partyAllRow.holds Try.pinned (OpenSpec.ofChange partyAllWrong)

/-- 'parterrelaw10.PartyMany': WHATEVER THE INPUT: true; the input reads as it did. -/
def partyManySpec : ChangeSpec := { name := "partyMany", fn := fun _ => fun
  | [d] => { results := [.lit (.bool true)], args := [d] }
  | _ => none }
def partyManyRow : OpenClaim := { program := "ytijfhnpmdhonhaa", sum := "85cc963daf0b309bfd91836a5c89e1a43e8ade006195dbf6a95977300e9ebeac", func := "parterre/parterrelaw10.PartyMany", spec := "partyMany", unfollowed := true, recurses := true, apart := false }
def PartyManySaid : Prop := partyManyRow.holds Try.pinned (OpenSpec.ofChange partyManySpec)

/-- ITS FALSE NEIGHBOUR: 'it returns false'. Refute it at one input. -/
def partyManyWrong : ChangeSpec := { name := "partyMany", fn := fun _ => fun
  | [d] => { results := [.lit (.bool false)], args := [d] }
  | _ => none }
def PartyManyWrongFalsely : Prop := partyManyRow.holds Try.pinned (OpenSpec.ofChange partyManyWrong)

/-- 'parterrelaw10.PartySum': WHATEVER THE INPUT: true; the input reads as it did. -/
def partySumSpec : ChangeSpec := { name := "partySum", fn := fun _ => fun
  | [d1, d2] => { results := [.lit (.bool true)], args := [d1, d2] }
  | _ => none }
def partySumRow : OpenClaim := { program := "ytijfhnpmdhonhaa", sum := "85cc963daf0b309bfd91836a5c89e1a43e8ade006195dbf6a95977300e9ebeac", func := "parterre/parterrelaw10.PartySum", spec := "partySum", unfollowed := true, recurses := true, apart := false }
def PartySumSaid : Prop := partySumRow.holds Try.pinned (OpenSpec.ofChange partySumSpec)

/-- ITS FALSE NEIGHBOUR: 'it returns false'. Refute it at one input. -/
def partySumWrong : ChangeSpec := { name := "partySum", fn := fun _ => fun
  | [d1, d2] => { results := [.lit (.bool false)], args := [d1, d2] }
  | _ => none }
def PartySumWrongFalsely : Prop := partySumRow.holds Try.pinned (OpenSpec.ofChange partySumWrong)

/-- 'parterrelaw16.TreeAsks': WHATEVER THE INPUT: true; the input reads as it did. -/
def treeAsksSpec : ChangeSpec := { name := "treeAsks", fn := fun _ => fun
  | [d1, d2, d3] => { results := [.lit (.bool true)], args := [d1, d2, d3] }
  | _ => none }
def treeAsksRow : OpenClaim := { program := "ytijfhnpmdhonhaa", sum := "85cc963daf0b309bfd91836a5c89e1a43e8ade006195dbf6a95977300e9ebeac", func := "parterre/parterrelaw16.TreeAsks", spec := "treeAsks", apart := false }
def TreeAsksSaid : Prop := treeAsksRow.holds Try.pinned (OpenSpec.ofChange treeAsksSpec)

/-- ITS FALSE NEIGHBOUR: 'it returns false'. Refute it at one input. -/
def treeAsksWrong : ChangeSpec := { name := "treeAsks", fn := fun _ => fun
  | [d1, d2, d3] => { results := [.lit (.bool false)], args := [d1, d2, d3] }
  | _ => none }
def TreeAsksWrongFalsely : Prop := treeAsksRow.holds Try.pinned (OpenSpec.ofChange treeAsksWrong)

/-- 'parterrelaw16.TreeBack': WHATEVER THE INPUT: true; the input reads as it did. -/
def treeBackSpec : ChangeSpec := { name := "treeBack", fn := fun _ => fun
  | [d1, d2, d3] => { results := [.lit (.bool true)], args := [d1, d2, d3] }
  | _ => none }
def treeBackRow : OpenClaim := { program := "ytijfhnpmdhonhaa", sum := "85cc963daf0b309bfd91836a5c89e1a43e8ade006195dbf6a95977300e9ebeac", func := "parterre/parterrelaw16.TreeBack", spec := "treeBack", apart := false }
def TreeBackSaid : Prop := treeBackRow.holds Try.pinned (OpenSpec.ofChange treeBackSpec)

/-- ITS FALSE NEIGHBOUR: 'it returns false'. Refute it at one input. -/
def treeBackWrong : ChangeSpec := { name := "treeBack", fn := fun _ => fun
  | [d1, d2, d3] => { results := [.lit (.bool false)], args := [d1, d2, d3] }
  | _ => none }
def TreeBackWrongFalsely : Prop := treeBackRow.holds Try.pinned (OpenSpec.ofChange treeBackWrong)

/-- 'parterrelaw16.TreeSizes': WHATEVER THE INPUT: true; the input reads as it did. -/
def treeSizesSpec : ChangeSpec := { name := "treeSizes", fn := fun _ => fun
  | [d1, d2] => { results := [.lit (.bool true)], args := [d1, d2] }
  | _ => none }
def treeSizesRow : OpenClaim := { program := "ytijfhnpmdhonhaa", sum := "85cc963daf0b309bfd91836a5c89e1a43e8ade006195dbf6a95977300e9ebeac", func := "parterre/parterrelaw16.TreeSizes", spec := "treeSizes", apart := false }
def TreeSizesSaid : Prop := treeSizesRow.holds Try.pinned (OpenSpec.ofChange treeSizesSpec)

/-- ITS FALSE NEIGHBOUR: 'it returns false'. Refute it at one input. -/
def treeSizesWrong : ChangeSpec := { name := "treeSizes", fn := fun _ => fun
  | [d1, d2] => { results := [.lit (.bool false)], args := [d1, d2] }
  | _ => none }
def TreeSizesWrongFalsely : Prop := treeSizesRow.holds Try.pinned (OpenSpec.ofChange treeSizesWrong)

/-- 'parterrelaw22.RecordAsks': WHATEVER THE INPUT: true; the input reads as it did. -/
def recordAsksSpec : ChangeSpec := { name := "recordAsks", fn := fun _ => fun
  | [d1, d2, d3] => { results := [.lit (.bool true)], args := [d1, d2, d3] }
  | _ => none }
def recordAsksRow : OpenClaim := { program := "ytijfhnpmdhonhaa", sum := "85cc963daf0b309bfd91836a5c89e1a43e8ade006195dbf6a95977300e9ebeac", func := "parterre/parterrelaw22.RecordAsks", spec := "recordAsks", apart := false }
def RecordAsksSaid : Prop := recordAsksRow.holds Try.pinned (OpenSpec.ofChange recordAsksSpec)

/-- ITS FALSE NEIGHBOUR: 'it returns false'. Refute it at one input. -/
def recordAsksWrong : ChangeSpec := { name := "recordAsks", fn := fun _ => fun
  | [d1, d2, d3] => { results := [.lit (.bool false)], args := [d1, d2, d3] }
  | _ => none }
def RecordAsksWrongFalsely : Prop := recordAsksRow.holds Try.pinned (OpenSpec.ofChange recordAsksWrong)

/-- 'parterrelaw22.RecordBack': WHATEVER THE INPUT: true; the input reads as it did. -/
def recordBackSpec : ChangeSpec := { name := "recordBack", fn := fun _ => fun
  | [d1, d2, d3] => { results := [.lit (.bool true)], args := [d1, d2, d3] }
  | _ => none }
def recordBackRow : OpenClaim := { program := "ytijfhnpmdhonhaa", sum := "85cc963daf0b309bfd91836a5c89e1a43e8ade006195dbf6a95977300e9ebeac", func := "parterre/parterrelaw22.RecordBack", spec := "recordBack", apart := false }
def RecordBackSaid : Prop := recordBackRow.holds Try.pinned (OpenSpec.ofChange recordBackSpec)

/-- ITS FALSE NEIGHBOUR: 'it returns false'. Refute it at one input. -/
def recordBackWrong : ChangeSpec := { name := "recordBack", fn := fun _ => fun
  | [d1, d2, d3] => { results := [.lit (.bool false)], args := [d1, d2, d3] }
  | _ => none }
def RecordBackWrongFalsely : Prop := recordBackRow.holds Try.pinned (OpenSpec.ofChange recordBackWrong)

/-- 'parterrelaw22.RecordEdges': WHATEVER THE INPUT: true; the input reads as it did. -/
def recordEdgesSpec : ChangeSpec := { name := "recordEdges", fn := fun _ => fun
  | [d1, d2] => { results := [.lit (.bool true)], args := [d1, d2] }
  | _ => none }
def recordEdgesRow : OpenClaim := { program := "ytijfhnpmdhonhaa", sum := "85cc963daf0b309bfd91836a5c89e1a43e8ade006195dbf6a95977300e9ebeac", func := "parterre/parterrelaw22.RecordEdges", spec := "recordEdges", apart := false }
def RecordEdgesSaid : Prop := recordEdgesRow.holds Try.pinned (OpenSpec.ofChange recordEdgesSpec)

/-- ITS FALSE NEIGHBOUR: 'it returns false'. Refute it at one input. -/
def recordEdgesWrong : ChangeSpec := { name := "recordEdges", fn := fun _ => fun
  | [d1, d2] => { results := [.lit (.bool false)], args := [d1, d2] }
  | _ => none }
def RecordEdgesWrongFalsely : Prop := recordEdgesRow.holds Try.pinned (OpenSpec.ofChange recordEdgesWrong)

/-- 'parterrelaw22.RecordKinds': WHATEVER THE INPUT: true; the input reads as it did. -/
def recordKindsSpec : ChangeSpec := { name := "recordKinds", fn := fun _ => fun
  | [d1, d2] => { results := [.lit (.bool true)], args := [d1, d2] }
  | _ => none }
def recordKindsRow : OpenClaim := { program := "ytijfhnpmdhonhaa", sum := "85cc963daf0b309bfd91836a5c89e1a43e8ade006195dbf6a95977300e9ebeac", func := "parterre/parterrelaw22.RecordKinds", spec := "recordKinds", apart := false }
def RecordKindsSaid : Prop := recordKindsRow.holds Try.pinned (OpenSpec.ofChange recordKindsSpec)

/-- ITS FALSE NEIGHBOUR: 'it returns false'. Refute it at one input. -/
def recordKindsWrong : ChangeSpec := { name := "recordKinds", fn := fun _ => fun
  | [d1, d2] => { results := [.lit (.bool false)], args := [d1, d2] }
  | _ => none }
def RecordKindsWrongFalsely : Prop := recordKindsRow.holds Try.pinned (OpenSpec.ofChange recordKindsWrong)

/- THE SECOND FORM. 'bulk': how many values and letters a reading holds, each counted each time it is reached (what is shared counts as often as it is met; a slice's spare places count too). A statement '..UptoSaid' is the law's where the arguments, and the package variables that the reading takes, are together of bulk at most 1048576: NARROWER than '..Said'. Prove '..Said' where nothing that the law and all that it calls make is longer than what came in: it says more and counts as full. Else prove '..UptoSaid'. A law counts once. -/
mutual
def uptoBulk {H : Type} : DataW H → Nat
  | .lit (.string bytes) => bytes.length + 1
  | .lit _ => 1
  | .nil => 1
  | .ptr d => uptoBulk d + 1
  | .slice elems spare => uptoBulkAll elems + uptoBulkAll spare + 1
  | .agg parts => uptoBulkAll parts + 1
  | .iface _ d => uptoBulk d + 1
  | .map entries => uptoBulkEntries entries + 1
  | .held _ => 1
def uptoBulkAll {H : Type} : List (DataW H) → Nat
  | [] => 0
  | d :: r => uptoBulk d + uptoBulkAll r
def uptoBulkEntries {H : Type} : List (Lit × DataW H) → Nat
  | [] => 0
  | x :: r => uptoBulkEntry x + uptoBulkEntries r
def uptoBulkEntry {H : Type} : Lit × DataW H → Nat
  | (.string bytes, d) => bytes.length + uptoBulk d + 1
  | (_, d) => uptoBulk d + 1
 end
def uptoSmall : (H : Type) → List (DataW H) → Bool := fun _ ds => decide (uptoBulkAll ds ≤ 1048576)
def OpenSpec.upto (s : _root_.Go.ChangeSpec) : _root_.Go.OpenSpec := { _root_.Go.OpenSpec.ofChange s with cond := some uptoSmall }

/-- 'parterrelaw10.PartyAsks', WHERE WHAT IT READS IS OF BULK AT MOST 1048576: true; the input reads as it did. -/
def partyAsksUptoRow : OpenClaim := { program := "ytijfhnpmdhonhaa", sum := "85cc963daf0b309bfd91836a5c89e1a43e8ade006195dbf6a95977300e9ebeac", func := "parterre/parterrelaw10.PartyAsks", spec := "partyAsks", unfollowed := true, recurses := true, apart := false, narrowed := true }
def PartyAsksUptoSaid : Prop := partyAsksUptoRow.holds Try.pinned (OpenSpec.upto partyAsksSpec)

/-- 'parterrelaw10.PartyAll', WHERE WHAT IT READS IS OF BULK AT MOST 1048576: true; the input reads as it did. -/
def partyAllUptoRow : OpenClaim := { program := "ytijfhnpmdhonhaa", sum := "85cc963daf0b309bfd91836a5c89e1a43e8ade006195dbf6a95977300e9ebeac", func := "parterre/parterrelaw10.PartyAll", spec := "partyAll", unfollowed := true, recurses := true, apart := false, narrowed := true }
def PartyAllUptoSaid : Prop := partyAllUptoRow.holds Try.pinned (OpenSpec.upto partyAllSpec)

/-- 'parterrelaw10.PartyMany', WHERE WHAT IT READS IS OF BULK AT MOST 1048576: true; the input reads as it did. -/
def partyManyUptoRow : OpenClaim := { program := "ytijfhnpmdhonhaa", sum := "85cc963daf0b309bfd91836a5c89e1a43e8ade006195dbf6a95977300e9ebeac", func := "parterre/parterrelaw10.PartyMany", spec := "partyMany", unfollowed := true, recurses := true, apart := false, narrowed := true }
def PartyManyUptoSaid : Prop := partyManyUptoRow.holds Try.pinned (OpenSpec.upto partyManySpec)

/-- 'parterrelaw10.PartySum', WHERE WHAT IT READS IS OF BULK AT MOST 1048576: true; the input reads as it did. -/
def partySumUptoRow : OpenClaim := { program := "ytijfhnpmdhonhaa", sum := "85cc963daf0b309bfd91836a5c89e1a43e8ade006195dbf6a95977300e9ebeac", func := "parterre/parterrelaw10.PartySum", spec := "partySum", unfollowed := true, recurses := true, apart := false, narrowed := true }
def PartySumUptoSaid : Prop := partySumUptoRow.holds Try.pinned (OpenSpec.upto partySumSpec)

/-- 'parterrelaw16.TreeAsks', WHERE WHAT IT READS IS OF BULK AT MOST 1048576: true; the input reads as it did. -/
def treeAsksUptoRow : OpenClaim := { program := "ytijfhnpmdhonhaa", sum := "85cc963daf0b309bfd91836a5c89e1a43e8ade006195dbf6a95977300e9ebeac", func := "parterre/parterrelaw16.TreeAsks", spec := "treeAsks", apart := false, narrowed := true }
def TreeAsksUptoSaid : Prop := treeAsksUptoRow.holds Try.pinned (OpenSpec.upto treeAsksSpec)

/-- 'parterrelaw16.TreeBack', WHERE WHAT IT READS IS OF BULK AT MOST 1048576: true; the input reads as it did. -/
def treeBackUptoRow : OpenClaim := { program := "ytijfhnpmdhonhaa", sum := "85cc963daf0b309bfd91836a5c89e1a43e8ade006195dbf6a95977300e9ebeac", func := "parterre/parterrelaw16.TreeBack", spec := "treeBack", apart := false, narrowed := true }
def TreeBackUptoSaid : Prop := treeBackUptoRow.holds Try.pinned (OpenSpec.upto treeBackSpec)

/-- 'parterrelaw16.TreeSizes', WHERE WHAT IT READS IS OF BULK AT MOST 1048576: true; the input reads as it did. -/
def treeSizesUptoRow : OpenClaim := { program := "ytijfhnpmdhonhaa", sum := "85cc963daf0b309bfd91836a5c89e1a43e8ade006195dbf6a95977300e9ebeac", func := "parterre/parterrelaw16.TreeSizes", spec := "treeSizes", apart := false, narrowed := true }
def TreeSizesUptoSaid : Prop := treeSizesUptoRow.holds Try.pinned (OpenSpec.upto treeSizesSpec)

/-- 'parterrelaw22.RecordAsks', WHERE WHAT IT READS IS OF BULK AT MOST 1048576: true; the input reads as it did. -/
def recordAsksUptoRow : OpenClaim := { program := "ytijfhnpmdhonhaa", sum := "85cc963daf0b309bfd91836a5c89e1a43e8ade006195dbf6a95977300e9ebeac", func := "parterre/parterrelaw22.RecordAsks", spec := "recordAsks", apart := false, narrowed := true }
def RecordAsksUptoSaid : Prop := recordAsksUptoRow.holds Try.pinned (OpenSpec.upto recordAsksSpec)

/-- 'parterrelaw22.RecordBack', WHERE WHAT IT READS IS OF BULK AT MOST 1048576: true; the input reads as it did. -/
def recordBackUptoRow : OpenClaim := { program := "ytijfhnpmdhonhaa", sum := "85cc963daf0b309bfd91836a5c89e1a43e8ade006195dbf6a95977300e9ebeac", func := "parterre/parterrelaw22.RecordBack", spec := "recordBack", apart := false, narrowed := true }
def RecordBackUptoSaid : Prop := recordBackUptoRow.holds Try.pinned (OpenSpec.upto recordBackSpec)

/-- 'parterrelaw22.RecordEdges', WHERE WHAT IT READS IS OF BULK AT MOST 1048576: true; the input reads as it did. -/
def recordEdgesUptoRow : OpenClaim := { program := "ytijfhnpmdhonhaa", sum := "85cc963daf0b309bfd91836a5c89e1a43e8ade006195dbf6a95977300e9ebeac", func := "parterre/parterrelaw22.RecordEdges", spec := "recordEdges", apart := false, narrowed := true }
def RecordEdgesUptoSaid : Prop := recordEdgesUptoRow.holds Try.pinned (OpenSpec.upto recordEdgesSpec)

/-- 'parterrelaw22.RecordKinds', WHERE WHAT IT READS IS OF BULK AT MOST 1048576: true; the input reads as it did. -/
def recordKindsUptoRow : OpenClaim := { program := "ytijfhnpmdhonhaa", sum := "85cc963daf0b309bfd91836a5c89e1a43e8ade006195dbf6a95977300e9ebeac", func := "parterre/parterrelaw22.RecordKinds", spec := "recordKinds", apart := false, narrowed := true }
def RecordKindsUptoSaid : Prop := recordKindsUptoRow.holds Try.pinned (OpenSpec.upto recordKindsSpec)

end Rows
end Go.Proofs.Ytijfhnpmdhonhaa
