/-
  No cell of these rows narrows 'for every input' (looked for: loops, veiled, ifaces, maps, wideKeys, modest, calm, conditions, laid).
  DERIVED. THE GIVEN ROWS OF THIS SEAT. 10 by the template 'for every input the law returns true; each argument reads behind the call as it read before'; 0 by the template 'total and deterministic' (their statements: YtfgfckgbefnnaaaTotals.lean).
  GIVEN WITH THE SEED: the statements are not yours to turn. If you find one false, say at which input.
  Laid BY PROGRAM, IN A SANDBOX (cutbox-rows.mjs): the forced cells as the released guide's own fill.sh prints them over the translation 8f0b8a61a88f9a65… (all of the seat's roots in one cut). By AI agents, Wed Nov 11 2026. No macro, syntax, notation, axiom, sorry.
-/
import Derived.Test.YtfgfckgbefnnaaaChecked
import GoSem.Claim
import GoSem.ClaimJoined
import GoSem.ClaimMapViews
import Derived.JoinedTies
import Derived.KernelRfl
namespace Go.Proofs.Ytfgfckgbefnnaaa
/- THE CELL 'sum', in the pinned program and in every row, IS THE sha256 OF THE DUMP (.gsa) THAT YtfgfckgbefnnaaaProg.lean LOADS. Nothing in Lean hashes anything: it is a label: what it is worth is what the hold of that sum in a sandbox is worth. -/
noncomputable def Try.pinned : Pinned := { name := "ytfgfckgbefnnaaa", sum := "8f0b8a61a88f9a65aa61fc7a32218a23135ccfa04e75173068ccd26fdcd38a23", checked := Try.checked }
namespace Rows
def none {H : Type} : Left H := { results := [], args := [] }

/-- 'parterrelaw14.PropRaw': WHATEVER THE INPUT: true; the input reads as it did. -/
def propRawSpec : ChangeSpec := { name := "propRaw", fn := fun _ => fun
  | [d1, d2, d3] => { results := [.lit (.bool true)], args := [d1, d2, d3] }
  | _ => none }
def propRawRow : OpenClaim := { program := "ytfgfckgbefnnaaa", sum := "8f0b8a61a88f9a65aa61fc7a32218a23135ccfa04e75173068ccd26fdcd38a23", func := "parterre/parterrelaw14.PropRaw", spec := "propRaw", unfollowed := true, recurses := true, apart := false }
def PropRawSaid : Prop := propRawRow.holds Try.pinned (OpenSpec.ofChange propRawSpec)

/-- ITS FALSE NEIGHBOUR: 'it returns false'. Refute it at one input. -/
def propRawWrong : ChangeSpec := { name := "propRaw", fn := fun _ => fun
  | [d1, d2, d3] => { results := [.lit (.bool false)], args := [d1, d2, d3] }
  | _ => none }
def PropRawWrongFalsely : Prop := propRawRow.holds Try.pinned (OpenSpec.ofChange propRawWrong)

/-- 'parterrelaw14.PropBack': WHATEVER THE INPUT: true; the input reads as it did. -/
def propBackSpec : ChangeSpec := { name := "propBack", fn := fun _ => fun
  | [d1, d2, d3, d4] => { results := [.lit (.bool true)], args := [d1, d2, d3, d4] }
  | _ => none }
def propBackRow : OpenClaim := { program := "ytfgfckgbefnnaaa", sum := "8f0b8a61a88f9a65aa61fc7a32218a23135ccfa04e75173068ccd26fdcd38a23", func := "parterre/parterrelaw14.PropBack", spec := "propBack", unfollowed := true, recurses := true, apart := false }
def PropBackSaid : Prop := propBackRow.holds Try.pinned (OpenSpec.ofChange propBackSpec)

/-- ITS FALSE NEIGHBOUR: 'it returns false'. Refute it at one input. -/
def propBackWrong : ChangeSpec := { name := "propBack", fn := fun _ => fun
  | [d1, d2, d3, d4] => { results := [.lit (.bool false)], args := [d1, d2, d3, d4] }
  | _ => none }
def PropBackWrongFalsely : Prop := propBackRow.holds Try.pinned (OpenSpec.ofChange propBackWrong)

/-- 'parterrelaw14.PropPlays': WHATEVER THE INPUT: true; the input reads as it did. -/
def propPlaysSpec : ChangeSpec := { name := "propPlays", fn := fun _ => fun
  | [d1, d2, d3, d4] => { results := [.lit (.bool true)], args := [d1, d2, d3, d4] }
  | _ => none }
def propPlaysRow : OpenClaim := { program := "ytfgfckgbefnnaaa", sum := "8f0b8a61a88f9a65aa61fc7a32218a23135ccfa04e75173068ccd26fdcd38a23", func := "parterre/parterrelaw14.PropPlays", spec := "propPlays", unfollowed := true, recurses := true, apart := false }
def PropPlaysSaid : Prop := propPlaysRow.holds Try.pinned (OpenSpec.ofChange propPlaysSpec)

/-- ITS FALSE NEIGHBOUR: 'it returns false'. Refute it at one input. -/
def propPlaysWrong : ChangeSpec := { name := "propPlays", fn := fun _ => fun
  | [d1, d2, d3, d4] => { results := [.lit (.bool false)], args := [d1, d2, d3, d4] }
  | _ => none }
def PropPlaysWrongFalsely : Prop := propPlaysRow.holds Try.pinned (OpenSpec.ofChange propPlaysWrong)

/-- 'parterrelaw14.PropTwo': WHATEVER THE INPUT: true; the input reads as it did. -/
def propTwoSpec : ChangeSpec := { name := "propTwo", fn := fun _ => fun
  | [d1, d2, d3, d4] => { results := [.lit (.bool true)], args := [d1, d2, d3, d4] }
  | _ => none }
def propTwoRow : OpenClaim := { program := "ytfgfckgbefnnaaa", sum := "8f0b8a61a88f9a65aa61fc7a32218a23135ccfa04e75173068ccd26fdcd38a23", func := "parterre/parterrelaw14.PropTwo", spec := "propTwo", unfollowed := true, recurses := true, apart := false }
def PropTwoSaid : Prop := propTwoRow.holds Try.pinned (OpenSpec.ofChange propTwoSpec)

/-- ITS FALSE NEIGHBOUR: 'it returns false'. Refute it at one input. -/
def propTwoWrong : ChangeSpec := { name := "propTwo", fn := fun _ => fun
  | [d1, d2, d3, d4] => { results := [.lit (.bool false)], args := [d1, d2, d3, d4] }
  | _ => none }
def PropTwoWrongFalsely : Prop := propTwoRow.holds Try.pinned (OpenSpec.ofChange propTwoWrong)

/-- 'parterrelaw15.SearchNodes': WHATEVER THE INPUT: true; the input reads as it did. -/
def searchNodesSpec : ChangeSpec := { name := "searchNodes", fn := fun _ => fun
  | [d1, d2, d3] => { results := [.lit (.bool true)], args := [d1, d2, d3] }
  | _ => none }
def searchNodesRow : OpenClaim := { program := "ytfgfckgbefnnaaa", sum := "8f0b8a61a88f9a65aa61fc7a32218a23135ccfa04e75173068ccd26fdcd38a23", func := "parterre/parterrelaw15.SearchNodes", spec := "searchNodes", unfollowed := true, recurses := true, apart := false }
def SearchNodesSaid : Prop := searchNodesRow.holds Try.pinned (OpenSpec.ofChange searchNodesSpec)

/-- ITS FALSE NEIGHBOUR: 'it returns false'. Refute it at one input. -/
def searchNodesWrong : ChangeSpec := { name := "searchNodes", fn := fun _ => fun
  | [d1, d2, d3] => { results := [.lit (.bool false)], args := [d1, d2, d3] }
  | _ => none }
def SearchNodesWrongFalsely : Prop := searchNodesRow.holds Try.pinned (OpenSpec.ofChange searchNodesWrong)

/-- 'parterrelaw15.SearchFuel': WHATEVER THE INPUT: true; the input reads as it did. -/
def searchFuelSpec : ChangeSpec := { name := "searchFuel", fn := fun _ => fun
  | [d1, d2, d3, d4, d5] => { results := [.lit (.bool true)], args := [d1, d2, d3, d4, d5] }
  | _ => none }
def searchFuelRow : OpenClaim := { program := "ytfgfckgbefnnaaa", sum := "8f0b8a61a88f9a65aa61fc7a32218a23135ccfa04e75173068ccd26fdcd38a23", func := "parterre/parterrelaw15.SearchFuel", spec := "searchFuel", unfollowed := true, recurses := true, apart := false }
def SearchFuelSaid : Prop := searchFuelRow.holds Try.pinned (OpenSpec.ofChange searchFuelSpec)

/-- ITS FALSE NEIGHBOUR: 'it returns false'. Refute it at one input. -/
def searchFuelWrong : ChangeSpec := { name := "searchFuel", fn := fun _ => fun
  | [d1, d2, d3, d4, d5] => { results := [.lit (.bool false)], args := [d1, d2, d3, d4, d5] }
  | _ => none }
def SearchFuelWrongFalsely : Prop := searchFuelRow.holds Try.pinned (OpenSpec.ofChange searchFuelWrong)

/-- 'parterrelaw15.SearchFree': WHATEVER THE INPUT: true; the input reads as it did. -/
def searchFreeSpec : ChangeSpec := { name := "searchFree", fn := fun _ => fun
  | [d1, d2] => { results := [.lit (.bool true)], args := [d1, d2] }
  | _ => none }
def searchFreeRow : OpenClaim := { program := "ytfgfckgbefnnaaa", sum := "8f0b8a61a88f9a65aa61fc7a32218a23135ccfa04e75173068ccd26fdcd38a23", func := "parterre/parterrelaw15.SearchFree", spec := "searchFree", unfollowed := true, recurses := true, apart := false }
def SearchFreeSaid : Prop := searchFreeRow.holds Try.pinned (OpenSpec.ofChange searchFreeSpec)

/-- ITS FALSE NEIGHBOUR: 'it returns false'. Refute it at one input. -/
def searchFreeWrong : ChangeSpec := { name := "searchFree", fn := fun _ => fun
  | [d1, d2] => { results := [.lit (.bool false)], args := [d1, d2] }
  | _ => none }
def SearchFreeWrongFalsely : Prop := searchFreeRow.holds Try.pinned (OpenSpec.ofChange searchFreeWrong)

/-- 'parterrelaw15.SearchOrder': WHATEVER THE INPUT: true; the input reads as it did. -/
def searchOrderSpec : ChangeSpec := { name := "searchOrder", fn := fun _ => fun
  | [d1, d2, d3, d4] => { results := [.lit (.bool true)], args := [d1, d2, d3, d4] }
  | _ => none }
def searchOrderRow : OpenClaim := { program := "ytfgfckgbefnnaaa", sum := "8f0b8a61a88f9a65aa61fc7a32218a23135ccfa04e75173068ccd26fdcd38a23", func := "parterre/parterrelaw15.SearchOrder", spec := "searchOrder", unfollowed := true, recurses := true, apart := false }
def SearchOrderSaid : Prop := searchOrderRow.holds Try.pinned (OpenSpec.ofChange searchOrderSpec)

/-- ITS FALSE NEIGHBOUR: 'it returns false'. Refute it at one input. -/
def searchOrderWrong : ChangeSpec := { name := "searchOrder", fn := fun _ => fun
  | [d1, d2, d3, d4] => { results := [.lit (.bool false)], args := [d1, d2, d3, d4] }
  | _ => none }
def SearchOrderWrongFalsely : Prop := searchOrderRow.holds Try.pinned (OpenSpec.ofChange searchOrderWrong)

/-- 'parterrelaw18.ResolveMoved': WHATEVER THE INPUT: true; the input reads as it did. -/
def resolveMovedSpec : ChangeSpec := { name := "resolveMoved", fn := fun _ => fun
  | [d1, d2] => { results := [.lit (.bool true)], args := [d1, d2] }
  | _ => none }
def resolveMovedRow : OpenClaim := { program := "ytfgfckgbefnnaaa", sum := "8f0b8a61a88f9a65aa61fc7a32218a23135ccfa04e75173068ccd26fdcd38a23", func := "parterre/parterrelaw18.ResolveMoved", spec := "resolveMoved", unfollowed := true, recurses := true, apart := false }
def ResolveMovedSaid : Prop := resolveMovedRow.holds Try.pinned (OpenSpec.ofChange resolveMovedSpec)

/-- ITS FALSE NEIGHBOUR: 'it returns false'. Refute it at one input. -/
def resolveMovedWrong : ChangeSpec := { name := "resolveMoved", fn := fun _ => fun
  | [d1, d2] => { results := [.lit (.bool false)], args := [d1, d2] }
  | _ => none }
def ResolveMovedWrongFalsely : Prop := resolveMovedRow.holds Try.pinned (OpenSpec.ofChange resolveMovedWrong)

/-- 'parterrelaw17.CertCut': WHATEVER THE INPUT: true; the input reads as it did. -/
def certCutSpec : ChangeSpec := { name := "certCut", fn := fun _ => fun
  | [d1, d2, d3, d4, d5] => { results := [.lit (.bool true)], args := [d1, d2, d3, d4, d5] }
  | _ => none }
def certCutRow : OpenClaim := { program := "ytfgfckgbefnnaaa", sum := "8f0b8a61a88f9a65aa61fc7a32218a23135ccfa04e75173068ccd26fdcd38a23", func := "parterre/parterrelaw17.CertCut", spec := "certCut", unfollowed := true, recurses := true, apart := false }
def CertCutSaid : Prop := certCutRow.holds Try.pinned (OpenSpec.ofChange certCutSpec)

/-- ITS FALSE NEIGHBOUR: 'it returns false'. Refute it at one input. -/
def certCutWrong : ChangeSpec := { name := "certCut", fn := fun _ => fun
  | [d1, d2, d3, d4, d5] => { results := [.lit (.bool false)], args := [d1, d2, d3, d4, d5] }
  | _ => none }
def CertCutWrongFalsely : Prop := certCutRow.holds Try.pinned (OpenSpec.ofChange certCutWrong)

/- THE SECOND FORM. 'bulk': how many values and letters a reading holds, each counted each time it is reached (what is shared counts as often as it is met; a slice's spare places count too). A statement '..UptoSaid' is the law's where the arguments, and the package variables that the reading takes, are together of bulk at most 1048576: NARROWER than '..Said'. Prove '..Said' where nothing that the law and all that it calls make is longer than what came in: it says more and counts as full. Else prove '..UptoSaid'. A law counts once. -/
mutual
def uptoBulk {H : Type} : DataW H → Nat
  | .lit (.string bytes) => bytes.length + 1
  | .lit _ => 1
  | .nil => 1
  | .ptr d => uptoBulk d + 1
  | .slice elems spare => uptoBulkAll elems + uptoBulkAll spare + 1
  | .agg parts => uptoBulkAll parts + 1
  | .iface _ d => uptoBulk d + 1
  | .map entries => uptoBulkEntries entries + 1
  | .held _ => 1
def uptoBulkAll {H : Type} : List (DataW H) → Nat
  | [] => 0
  | d :: r => uptoBulk d + uptoBulkAll r
def uptoBulkEntries {H : Type} : List (Lit × DataW H) → Nat
  | [] => 0
  | x :: r => uptoBulkEntry x + uptoBulkEntries r
def uptoBulkEntry {H : Type} : Lit × DataW H → Nat
  | (.string bytes, d) => bytes.length + uptoBulk d + 1
  | (_, d) => uptoBulk d + 1
 end
def uptoSmall : (H : Type) → List (DataW H) → Bool := fun _ ds => decide (uptoBulkAll ds ≤ 1048576)
def OpenSpec.upto (s : _root_.Go.ChangeSpec) : _root_.Go.OpenSpec := { _root_.Go.OpenSpec.ofChange s with cond := some uptoSmall }

/-- 'parterrelaw14.PropRaw', WHERE WHAT IT READS IS OF BULK AT MOST 1048576: true; the input reads as it did. -/
def propRawUptoRow : OpenClaim := { program := "ytfgfckgbefnnaaa", sum := "8f0b8a61a88f9a65aa61fc7a32218a23135ccfa04e75173068ccd26fdcd38a23", func := "parterre/parterrelaw14.PropRaw", spec := "propRaw", unfollowed := true, recurses := true, apart := false, narrowed := true }
def PropRawUptoSaid : Prop := propRawUptoRow.holds Try.pinned (OpenSpec.upto propRawSpec)

/-- 'parterrelaw14.PropBack', WHERE WHAT IT READS IS OF BULK AT MOST 1048576: true; the input reads as it did. -/
def propBackUptoRow : OpenClaim := { program := "ytfgfckgbefnnaaa", sum := "8f0b8a61a88f9a65aa61fc7a32218a23135ccfa04e75173068ccd26fdcd38a23", func := "parterre/parterrelaw14.PropBack", spec := "propBack", unfollowed := true, recurses := true, apart := false, narrowed := true }
def PropBackUptoSaid : Prop := propBackUptoRow.holds Try.pinned (OpenSpec.upto propBackSpec)

/-- 'parterrelaw14.PropPlays', WHERE WHAT IT READS IS OF BULK AT MOST 1048576: true; the input reads as it did. -/
def propPlaysUptoRow : OpenClaim := { program := "ytfgfckgbefnnaaa", sum := "8f0b8a61a88f9a65aa61fc7a32218a23135ccfa04e75173068ccd26fdcd38a23", func := "parterre/parterrelaw14.PropPlays", spec := "propPlays", unfollowed := true, recurses := true, apart := false, narrowed := true }
def PropPlaysUptoSaid : Prop := propPlaysUptoRow.holds Try.pinned (OpenSpec.upto propPlaysSpec)

/-- 'parterrelaw14.PropTwo', WHERE WHAT IT READS IS OF BULK AT MOST 1048576: true; the input reads as it did. -/
def propTwoUptoRow : OpenClaim := { program := "ytfgfckgbefnnaaa", sum := "8f0b8a61a88f9a65aa61fc7a32218a23135ccfa04e75173068ccd26fdcd38a23", func := "parterre/parterrelaw14.PropTwo", spec := "propTwo", unfollowed := true, recurses := true, apart := false, narrowed := true }
def PropTwoUptoSaid : Prop := propTwoUptoRow.holds Try.pinned (OpenSpec.upto propTwoSpec)

/-- 'parterrelaw15.SearchNodes', WHERE WHAT IT READS IS OF BULK AT MOST 1048576: true; the input reads as it did. -/
def searchNodesUptoRow : OpenClaim := { program := "ytfgfckgbefnnaaa", sum := "8f0b8a61a88f9a65aa61fc7a32218a23135ccfa04e75173068ccd26fdcd38a23", func := "parterre/parterrelaw15.SearchNodes", spec := "searchNodes", unfollowed := true, recurses := true, apart := false, narrowed := true }
def SearchNodesUptoSaid : Prop := searchNodesUptoRow.holds Try.pinned (OpenSpec.upto searchNodesSpec)

/-- 'parterrelaw15.SearchFuel', WHERE WHAT IT READS IS OF BULK AT MOST 1048576: true; the input reads as it did. -/
def searchFuelUptoRow : OpenClaim := { program := "ytfgfckgbefnnaaa", sum := "8f0b8a61a88f9a65aa61fc7a32218a23135ccfa04e75173068ccd26fdcd38a23", func := "parterre/parterrelaw15.SearchFuel", spec := "searchFuel", unfollowed := true, recurses := true, apart := false, narrowed := true }
def SearchFuelUptoSaid : Prop := searchFuelUptoRow.holds Try.pinned (OpenSpec.upto searchFuelSpec)

/-- 'parterrelaw15.SearchFree', WHERE WHAT IT READS IS OF BULK AT MOST 1048576: true; the input reads as it did. -/
def searchFreeUptoRow : OpenClaim := { program := "ytfgfckgbefnnaaa", sum := "8f0b8a61a88f9a65aa61fc7a32218a23135ccfa04e75173068ccd26fdcd38a23", func := "parterre/parterrelaw15.SearchFree", spec := "searchFree", unfollowed := true, recurses := true, apart := false, narrowed := true }
def SearchFreeUptoSaid : Prop := searchFreeUptoRow.holds Try.pinned (OpenSpec.upto searchFreeSpec)

/-- 'parterrelaw15.SearchOrder', WHERE WHAT IT READS IS OF BULK AT MOST 1048576: true; the input reads as it did. -/
def searchOrderUptoRow : OpenClaim := { program := "ytfgfckgbefnnaaa", sum := "8f0b8a61a88f9a65aa61fc7a32218a23135ccfa04e75173068ccd26fdcd38a23", func := "parterre/parterrelaw15.SearchOrder", spec := "searchOrder", unfollowed := true, recurses := true, apart := false, narrowed := true }
def SearchOrderUptoSaid : Prop := searchOrderUptoRow.holds Try.pinned (OpenSpec.upto searchOrderSpec)

/-- 'parterrelaw18.ResolveMoved', WHERE WHAT IT READS IS OF BULK AT MOST 1048576: true; the input reads as it did. -/
def resolveMovedUptoRow : OpenClaim := { program := "ytfgfckgbefnnaaa", sum := "8f0b8a61a88f9a65aa61fc7a32218a23135ccfa04e75173068ccd26fdcd38a23", func := "parterre/parterrelaw18.ResolveMoved", spec := "resolveMoved", unfollowed := true, recurses := true, apart := false, narrowed := true }
def ResolveMovedUptoSaid : Prop := resolveMovedUptoRow.holds Try.pinned (OpenSpec.upto resolveMovedSpec)

/-- 'parterrelaw17.CertCut', WHERE WHAT IT READS IS OF BULK AT MOST 1048576: true; the input reads as it did. -/
def certCutUptoRow : OpenClaim := { program := "ytfgfckgbefnnaaa", sum := "8f0b8a61a88f9a65aa61fc7a32218a23135ccfa04e75173068ccd26fdcd38a23", func := "parterre/parterrelaw17.CertCut", spec := "certCut", unfollowed := true, recurses := true, apart := false, narrowed := true }
def CertCutUptoSaid : Prop := certCutUptoRow.holds Try.pinned (OpenSpec.upto certCutSpec)

end Rows
end Go.Proofs.Ytfgfckgbefnnaaa
