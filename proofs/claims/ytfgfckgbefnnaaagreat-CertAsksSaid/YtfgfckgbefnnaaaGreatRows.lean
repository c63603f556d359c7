/-
  No cell of these rows narrows 'for every input' (looked for: loops, veiled, ifaces, maps, wideKeys, modest, calm, conditions, laid).
  DERIVED. THE GIVEN ROWS OF THIS SEAT. 11 by the template 'for every input the law returns true; each argument reads behind the call as it read before'; 0 by the template 'total and deterministic' (their statements: YtfgfckgbefnnaaaGreatTotals.lean).
  GIVEN WITH THE SEED: the statements are not yours to turn. If you find one false, say at which input.
  Laid BY PROGRAM, IN A SANDBOX (cutbox-rows.mjs): the forced cells as the released guide's own fill.sh prints them over the translation 906bff0d820184f6… (all of the seat's roots in one cut). By AI agents, Wed Nov 11 2026. No macro, syntax, notation, axiom, sorry.
-/
import Derived.Test.YtfgfckgbefnnaaaGreatChecked
import GoSem.Claim
import GoSem.ClaimJoined
import GoSem.ClaimMapViews
import Derived.JoinedTies
import Derived.KernelRfl
namespace Go.Proofs.YtfgfckgbefnnaaaGreat
/- THE CELL 'sum', in the pinned program and in every row, IS THE sha256 OF THE DUMP (.gsa) THAT YtfgfckgbefnnaaaGreatProg.lean LOADS. Nothing in Lean hashes anything: it is a label: what it is worth is what the hold of that sum in a sandbox is worth. -/
noncomputable def Tryz.pinned : Pinned := { name := "ytfgfckgbefnnaaagreat", sum := "906bff0d820184f6e4a2658f1d9479b663fa4f05c058bc4161754a5db9619734", checked := Tryz.checked }
namespace Rows
def none {H : Type} : Left H := { results := [], args := [] }

/-- 'parterrelaw15.SearchBest': WHATEVER THE INPUT: true; the input reads as it did. -/
def searchBestSpec : ChangeSpec := { name := "searchBest", fn := fun _ => fun
  | [d1, d2, d3] => { results := [.lit (.bool true)], args := [d1, d2, d3] }
  | _ => none }
def searchBestRow : OpenClaim := { program := "ytfgfckgbefnnaaagreat", sum := "906bff0d820184f6e4a2658f1d9479b663fa4f05c058bc4161754a5db9619734", func := "parterre/parterrelaw15.SearchBest", spec := "searchBest", unfollowed := true, recurses := true, apart := false }
def SearchBestSaid : Prop := searchBestRow.holds Tryz.pinned (OpenSpec.ofChange searchBestSpec)

/-- ITS FALSE NEIGHBOUR: 'it returns false'. Refute it at one input. -/
def searchBestWrong : ChangeSpec := { name := "searchBest", fn := fun _ => fun
  | [d1, d2, d3] => { results := [.lit (.bool false)], args := [d1, d2, d3] }
  | _ => none }
def SearchBestWrongFalsely : Prop := searchBestRow.holds Tryz.pinned (OpenSpec.ofChange searchBestWrong)

/-- 'parterrelaw18.ResolveAsks': WHATEVER THE INPUT: true; the input reads as it did. -/
def resolveAsksSpec : ChangeSpec := { name := "resolveAsks", fn := fun _ => fun
  | [d1, d2, d3, d4, d5, d6, d7] => { results := [.lit (.bool true)], args := [d1, d2, d3, d4, d5, d6, d7] }
  | _ => none }
def resolveAsksRow : OpenClaim := { program := "ytfgfckgbefnnaaagreat", sum := "906bff0d820184f6e4a2658f1d9479b663fa4f05c058bc4161754a5db9619734", func := "parterre/parterrelaw18.ResolveAsks", spec := "resolveAsks", unfollowed := true, recurses := true, apart := false }
def ResolveAsksSaid : Prop := resolveAsksRow.holds Tryz.pinned (OpenSpec.ofChange resolveAsksSpec)

/-- ITS FALSE NEIGHBOUR: 'it returns false'. Refute it at one input. -/
def resolveAsksWrong : ChangeSpec := { name := "resolveAsks", fn := fun _ => fun
  | [d1, d2, d3, d4, d5, d6, d7] => { results := [.lit (.bool false)], args := [d1, d2, d3, d4, d5, d6, d7] }
  | _ => none }
def ResolveAsksWrongFalsely : Prop := resolveAsksRow.holds Tryz.pinned (OpenSpec.ofChange resolveAsksWrong)

/-- 'parterrelaw18.ResolveFuel': WHATEVER THE INPUT: true; the input reads as it did. -/
def resolveFuelSpec : ChangeSpec := { name := "resolveFuel", fn := fun _ => fun
  | [d1, d2, d3, d4, d5] => { results := [.lit (.bool true)], args := [d1, d2, d3, d4, d5] }
  | _ => none }
def resolveFuelRow : OpenClaim := { program := "ytfgfckgbefnnaaagreat", sum := "906bff0d820184f6e4a2658f1d9479b663fa4f05c058bc4161754a5db9619734", func := "parterre/parterrelaw18.ResolveFuel", spec := "resolveFuel", unfollowed := true, recurses := true, apart := false }
def ResolveFuelSaid : Prop := resolveFuelRow.holds Tryz.pinned (OpenSpec.ofChange resolveFuelSpec)

/-- ITS FALSE NEIGHBOUR: 'it returns false'. Refute it at one input. -/
def resolveFuelWrong : ChangeSpec := { name := "resolveFuel", fn := fun _ => fun
  | [d1, d2, d3, d4, d5] => { results := [.lit (.bool false)], args := [d1, d2, d3, d4, d5] }
  | _ => none }
def ResolveFuelWrongFalsely : Prop := resolveFuelRow.holds Tryz.pinned (OpenSpec.ofChange resolveFuelWrong)

/-- 'parterrelaw18.ResolveWithout': WHATEVER THE INPUT: true; the input reads as it did. -/
def resolveWithoutSpec : ChangeSpec := { name := "resolveWithout", fn := fun _ => fun
  | [d1, d2, d3, d4, d5] => { results := [.lit (.bool true)], args := [d1, d2, d3, d4, d5] }
  | _ => none }
def resolveWithoutRow : OpenClaim := { program := "ytfgfckgbefnnaaagreat", sum := "906bff0d820184f6e4a2658f1d9479b663fa4f05c058bc4161754a5db9619734", func := "parterre/parterrelaw18.ResolveWithout", spec := "resolveWithout", unfollowed := true, recurses := true, apart := false }
def ResolveWithoutSaid : Prop := resolveWithoutRow.holds Tryz.pinned (OpenSpec.ofChange resolveWithoutSpec)

/-- ITS FALSE NEIGHBOUR: 'it returns false'. Refute it at one input. -/
def resolveWithoutWrong : ChangeSpec := { name := "resolveWithout", fn := fun _ => fun
  | [d1, d2, d3, d4, d5] => { results := [.lit (.bool false)], args := [d1, d2, d3, d4, d5] }
  | _ => none }
def ResolveWithoutWrongFalsely : Prop := resolveWithoutRow.holds Tryz.pinned (OpenSpec.ofChange resolveWithoutWrong)

/-- 'parterrelaw18.ResolveWith': WHATEVER THE INPUT: true; the input reads as it did. -/
def resolveWithSpec : ChangeSpec := { name := "resolveWith", fn := fun _ => fun
  | [d1, d2, d3, d4, d5] => { results := [.lit (.bool true)], args := [d1, d2, d3, d4, d5] }
  | _ => none }
def resolveWithRow : OpenClaim := { program := "ytfgfckgbefnnaaagreat", sum := "906bff0d820184f6e4a2658f1d9479b663fa4f05c058bc4161754a5db9619734", func := "parterre/parterrelaw18.ResolveWith", spec := "resolveWith", unfollowed := true, recurses := true, apart := false }
def ResolveWithSaid : Prop := resolveWithRow.holds Tryz.pinned (OpenSpec.ofChange resolveWithSpec)

/-- ITS FALSE NEIGHBOUR: 'it returns false'. Refute it at one input. -/
def resolveWithWrong : ChangeSpec := { name := "resolveWith", fn := fun _ => fun
  | [d1, d2, d3, d4, d5] => { results := [.lit (.bool false)], args := [d1, d2, d3, d4, d5] }
  | _ => none }
def ResolveWithWrongFalsely : Prop := resolveWithRow.holds Tryz.pinned (OpenSpec.ofChange resolveWithWrong)

/-- 'parterrelaw17.CertAsks': WHATEVER THE INPUT: true; the input reads as it did. -/
def certAsksSpec : ChangeSpec := { name := "certAsks", fn := fun _ => fun
  | [d1, d2, d3, d4, d5, d6] => { results := [.lit (.bool true)], args := [d1, d2, d3, d4, d5, d6] }
  | _ => none }
def certAsksRow : OpenClaim := { program := "ytfgfckgbefnnaaagreat", sum := "906bff0d820184f6e4a2658f1d9479b663fa4f05c058bc4161754a5db9619734", func := "parterre/parterrelaw17.CertAsks", spec := "certAsks", unfollowed := true, recurses := true, apart := false }
def CertAsksSaid : Prop := certAsksRow.holds Tryz.pinned (OpenSpec.ofChange certAsksSpec)

/-- ITS FALSE NEIGHBOUR: 'it returns false'. Refute it at one input. -/
def certAsksWrong : ChangeSpec := { name := "certAsks", fn := fun _ => fun
  | [d1, d2, d3, d4, d5, d6] => { results := [.lit (.bool false)], args := [d1, d2, d3, d4, d5, d6] }
  | _ => none }
def CertAsksWrongFalsely : Prop := certAsksRow.holds Tryz.pinned (OpenSpec.ofChange certAsksWrong)

/-- 'parterrelaw17.CertSound': WHATEVER THE INPUT: true; the input reads as it did. -/
def certSoundSpec : ChangeSpec := { name := "certSound", fn := fun _ => fun
  | [d1, d2, d3, d4, d5, d6, d7] => { results := [.lit (.bool true)], args := [d1, d2, d3, d4, d5, d6, d7] }
  | _ => none }
def certSoundRow : OpenClaim := { program := "ytfgfckgbefnnaaagreat", sum := "906bff0d820184f6e4a2658f1d9479b663fa4f05c058bc4161754a5db9619734", func := "parterre/parterrelaw17.CertSound", spec := "certSound", unfollowed := true, recurses := true, apart := false }
def CertSoundSaid : Prop := certSoundRow.holds Tryz.pinned (OpenSpec.ofChange certSoundSpec)

/-- ITS FALSE NEIGHBOUR: 'it returns false'. Refute it at one input. -/
def certSoundWrong : ChangeSpec := { name := "certSound", fn := fun _ => fun
  | [d1, d2, d3, d4, d5, d6, d7] => { results := [.lit (.bool false)], args := [d1, d2, d3, d4, d5, d6, d7] }
  | _ => none }
def CertSoundWrongFalsely : Prop := certSoundRow.holds Tryz.pinned (OpenSpec.ofChange certSoundWrong)

/-- 'parterrelaw17.CertComplete': WHATEVER THE INPUT: true; the input reads as it did. -/
def certCompleteSpec : ChangeSpec := { name := "certComplete", fn := fun _ => fun
  | [d1, d2, d3, d4] => { results := [.lit (.bool true)], args := [d1, d2, d3, d4] }
  | _ => none }
def certCompleteRow : OpenClaim := { program := "ytfgfckgbefnnaaagreat", sum := "906bff0d820184f6e4a2658f1d9479b663fa4f05c058bc4161754a5db9619734", func := "parterre/parterrelaw17.CertComplete", spec := "certComplete", unfollowed := true, recurses := true, apart := false }
def CertCompleteSaid : Prop := certCompleteRow.holds Tryz.pinned (OpenSpec.ofChange certCompleteSpec)

/-- ITS FALSE NEIGHBOUR: 'it returns false'. Refute it at one input. -/
def certCompleteWrong : ChangeSpec := { name := "certComplete", fn := fun _ => fun
  | [d1, d2, d3, d4] => { results := [.lit (.bool false)], args := [d1, d2, d3, d4] }
  | _ => none }
def CertCompleteWrongFalsely : Prop := certCompleteRow.holds Tryz.pinned (OpenSpec.ofChange certCompleteWrong)

/-- 'parterrelaw17.CertNeed': WHATEVER THE INPUT: true; the input reads as it did. -/
def certNeedSpec : ChangeSpec := { name := "certNeed", fn := fun _ => fun
  | [d1, d2, d3, d4] => { results := [.lit (.bool true)], args := [d1, d2, d3, d4] }
  | _ => none }
def certNeedRow : OpenClaim := { program := "ytfgfckgbefnnaaagreat", sum := "906bff0d820184f6e4a2658f1d9479b663fa4f05c058bc4161754a5db9619734", func := "parterre/parterrelaw17.CertNeed", spec := "certNeed", unfollowed := true, recurses := true, apart := false }
def CertNeedSaid : Prop := certNeedRow.holds Tryz.pinned (OpenSpec.ofChange certNeedSpec)

/-- ITS FALSE NEIGHBOUR: 'it returns false'. Refute it at one input. -/
def certNeedWrong : ChangeSpec := { name := "certNeed", fn := fun _ => fun
  | [d1, d2, d3, d4] => { results := [.lit (.bool false)], args := [d1, d2, d3, d4] }
  | _ => none }
def CertNeedWrongFalsely : Prop := certNeedRow.holds Tryz.pinned (OpenSpec.ofChange certNeedWrong)

/-- 'parterrelaw18.ResolveMost': WHATEVER THE INPUT: true; the input reads as it did. -/
def resolveMostSpec : ChangeSpec := { name := "resolveMost", fn := fun _ => fun
  | [d1, d2, d3, d4] => { results := [.lit (.bool true)], args := [d1, d2, d3, d4] }
  | _ => none }
def resolveMostRow : OpenClaim := { program := "ytfgfckgbefnnaaagreat", sum := "906bff0d820184f6e4a2658f1d9479b663fa4f05c058bc4161754a5db9619734", func := "parterre/parterrelaw18.ResolveMost", spec := "resolveMost", unfollowed := true, recurses := true, apart := false }
def ResolveMostSaid : Prop := resolveMostRow.holds Tryz.pinned (OpenSpec.ofChange resolveMostSpec)

/-- ITS FALSE NEIGHBOUR: 'it returns false'. Refute it at one input. -/
def resolveMostWrong : ChangeSpec := { name := "resolveMost", fn := fun _ => fun
  | [d1, d2, d3, d4] => { results := [.lit (.bool false)], args := [d1, d2, d3, d4] }
  | _ => none }
def ResolveMostWrongFalsely : Prop := resolveMostRow.holds Tryz.pinned (OpenSpec.ofChange resolveMostWrong)

/-- 'parterrelaw17.CertRead': WHATEVER THE INPUT: true; the input reads as it did. -/
def certReadSpec : ChangeSpec := { name := "certRead", fn := fun _ => fun
  | [d1, d2, d3] => { results := [.lit (.bool true)], args := [d1, d2, d3] }
  | _ => none }
def certReadRow : OpenClaim := { program := "ytfgfckgbefnnaaagreat", sum := "906bff0d820184f6e4a2658f1d9479b663fa4f05c058bc4161754a5db9619734", func := "parterre/parterrelaw17.CertRead", spec := "certRead", unfollowed := true, recurses := true, apart := false }
def CertReadSaid : Prop := certReadRow.holds Tryz.pinned (OpenSpec.ofChange certReadSpec)

/-- ITS FALSE NEIGHBOUR: 'it returns false'. Refute it at one input. -/
def certReadWrong : ChangeSpec := { name := "certRead", fn := fun _ => fun
  | [d1, d2, d3] => { results := [.lit (.bool false)], args := [d1, d2, d3] }
  | _ => none }
def CertReadWrongFalsely : Prop := certReadRow.holds Tryz.pinned (OpenSpec.ofChange certReadWrong)

/- THE SECOND FORM. 'bulk': how many values and letters a reading holds, each counted each time it is reached (what is shared counts as often as it is met; a slice's spare places count too). A statement '..UptoSaid' is the law's where the arguments, and the package variables that the reading takes, are together of bulk at most 1048576: NARROWER than '..Said'. Prove '..Said' where nothing that the law and all that it calls make is longer than what came in: it says more and counts as full. Else prove '..UptoSaid'. A law counts once. -/
mutual
def uptoBulk {H : Type} : DataW H → Nat
  | .lit (.string bytes) => bytes.length + 1
  | .lit _ => 1
  | .nil => 1
  | .ptr d => uptoBulk d + 1
  | .slice elems spare => uptoBulkAll elems + uptoBulkAll spare + 1
  | .agg parts => uptoBulkAll parts + 1
  | .iface _ d => uptoBulk d + 1
  | .map entries => uptoBulkEntries entries + 1
  | .held _ => 1
def uptoBulkAll {H : Type} : List (DataW H) → Nat
  | [] => 0
  | d :: r => uptoBulk d + uptoBulkAll r
def uptoBulkEntries {H : Type} : List (Lit × DataW H) → Nat
  | [] => 0
  | x :: r => uptoBulkEntry x + uptoBulkEntries r
def uptoBulkEntry {H : Type} : Lit × DataW H → Nat
  | (.string bytes, d) => bytes.length + uptoBulk d + 1
  | (_, d) => uptoBulk d + 1
 end
def uptoSmall : (H : Type) → List (DataW H) → Bool := fun _ ds => decide (uptoBulkAll ds ≤ 1048576)
def OpenSpec.upto (s : _root_.Go.ChangeSpec) : _root_.Go.OpenSpec := { _root_.Go.OpenSpec.ofChange s with cond := some uptoSmall }

/-- 'parterrelaw15.SearchBest', WHERE WHAT IT READS IS OF BULK AT MOST 1048576: true; the input reads as it did. -/
def searchBestUptoRow : OpenClaim := { program := "ytfgfckgbefnnaaagreat", sum := "906bff0d820184f6e4a2658f1d9479b663fa4f05c058bc4161754a5db9619734", func := "parterre/parterrelaw15.SearchBest", spec := "searchBest", unfollowed := true, recurses := true, apart := false, narrowed := true }
def SearchBestUptoSaid : Prop := searchBestUptoRow.holds Tryz.pinned (OpenSpec.upto searchBestSpec)

/-- 'parterrelaw18.ResolveAsks', WHERE WHAT IT READS IS OF BULK AT MOST 1048576: true; the input reads as it did. -/
def resolveAsksUptoRow : OpenClaim := { program := "ytfgfckgbefnnaaagreat", sum := "906bff0d820184f6e4a2658f1d9479b663fa4f05c058bc4161754a5db9619734", func := "parterre/parterrelaw18.ResolveAsks", spec := "resolveAsks", unfollowed := true, recurses := true, apart := false, narrowed := true }
def ResolveAsksUptoSaid : Prop := resolveAsksUptoRow.holds Tryz.pinned (OpenSpec.upto resolveAsksSpec)

/-- 'parterrelaw18.ResolveFuel', WHERE WHAT IT READS IS OF BULK AT MOST 1048576: true; the input reads as it did. -/
def resolveFuelUptoRow : OpenClaim := { program := "ytfgfckgbefnnaaagreat", sum := "906bff0d820184f6e4a2658f1d9479b663fa4f05c058bc4161754a5db9619734", func := "parterre/parterrelaw18.ResolveFuel", spec := "resolveFuel", unfollowed := true, recurses := true, apart := false, narrowed := true }
def ResolveFuelUptoSaid : Prop := resolveFuelUptoRow.holds Tryz.pinned (OpenSpec.upto resolveFuelSpec)

/-- 'parterrelaw18.ResolveWithout', WHERE WHAT IT READS IS OF BULK AT MOST 1048576: true; the input reads as it did. -/
def resolveWithoutUptoRow : OpenClaim := { program := "ytfgfckgbefnnaaagreat", sum := "906bff0d820184f6e4a2658f1d9479b663fa4f05c058bc4161754a5db9619734", func := "parterre/parterrelaw18.ResolveWithout", spec := "resolveWithout", unfollowed := true, recurses := true, apart := false, narrowed := true }
def ResolveWithoutUptoSaid : Prop := resolveWithoutUptoRow.holds Tryz.pinned (OpenSpec.upto resolveWithoutSpec)

/-- 'parterrelaw18.ResolveWith', WHERE WHAT IT READS IS OF BULK AT MOST 1048576: true; the input reads as it did. -/
def resolveWithUptoRow : OpenClaim := { program := "ytfgfckgbefnnaaagreat", sum := "906bff0d820184f6e4a2658f1d9479b663fa4f05c058bc4161754a5db9619734", func := "parterre/parterrelaw18.ResolveWith", spec := "resolveWith", unfollowed := true, recurses := true, apart := false, narrowed := true }
def ResolveWithUptoSaid : Prop := resolveWithUptoRow.holds Tryz.pinned (OpenSpec.upto resolveWithSpec)

/-- 'parterrelaw17.CertAsks', WHERE WHAT IT READS IS OF BULK AT MOST 1048576: true; the input reads as it did. -/
def certAsksUptoRow : OpenClaim := { program := "ytfgfckgbefnnaaagreat", sum := "906bff0d820184f6e4a2658f1d9479b663fa4f05c058bc4161754a5db9619734", func := "parterre/parterrelaw17.CertAsks", spec := "certAsks", unfollowed := true, recurses := true, apart := false, narrowed := true }
def CertAsksUptoSaid : Prop := certAsksUptoRow.holds Tryz.pinned (OpenSpec.upto certAsksSpec)

/-- 'parterrelaw17.CertSound', WHERE WHAT IT READS IS OF BULK AT MOST 1048576: true; the input reads as it did. -/
def certSoundUptoRow : OpenClaim := { program := "ytfgfckgbefnnaaagreat", sum := "906bff0d820184f6e4a2658f1d9479b663fa4f05c058bc4161754a5db9619734", func := "parterre/parterrelaw17.CertSound", spec := "certSound", unfollowed := true, recurses := true, apart := false, narrowed := true }
def CertSoundUptoSaid : Prop := certSoundUptoRow.holds Tryz.pinned (OpenSpec.upto certSoundSpec)

/-- 'parterrelaw17.CertComplete', WHERE WHAT IT READS IS OF BULK AT MOST 1048576: true; the input reads as it did. -/
def certCompleteUptoRow : OpenClaim := { program := "ytfgfckgbefnnaaagreat", sum := "906bff0d820184f6e4a2658f1d9479b663fa4f05c058bc4161754a5db9619734", func := "parterre/parterrelaw17.CertComplete", spec := "certComplete", unfollowed := true, recurses := true, apart := false, narrowed := true }
def CertCompleteUptoSaid : Prop := certCompleteUptoRow.holds Tryz.pinned (OpenSpec.upto certCompleteSpec)

/-- 'parterrelaw17.CertNeed', WHERE WHAT IT READS IS OF BULK AT MOST 1048576: true; the input reads as it did. -/
def certNeedUptoRow : OpenClaim := { program := "ytfgfckgbefnnaaagreat", sum := "906bff0d820184f6e4a2658f1d9479b663fa4f05c058bc4161754a5db9619734", func := "parterre/parterrelaw17.CertNeed", spec := "certNeed", unfollowed := true, recurses := true, apart := false, narrowed := true }
def CertNeedUptoSaid : Prop := certNeedUptoRow.holds Tryz.pinned (OpenSpec.upto certNeedSpec)

/-- 'parterrelaw18.ResolveMost', WHERE WHAT IT READS IS OF BULK AT MOST 1048576: true; the input reads as it did. -/
def resolveMostUptoRow : OpenClaim := { program := "ytfgfckgbefnnaaagreat", sum := "906bff0d820184f6e4a2658f1d9479b663fa4f05c058bc4161754a5db9619734", func := "parterre/parterrelaw18.ResolveMost", spec := "resolveMost", unfollowed := true, recurses := true, apart := false, narrowed := true }
def ResolveMostUptoSaid : Prop := resolveMostUptoRow.holds Tryz.pinned (OpenSpec.upto resolveMostSpec)

/-- 'parterrelaw17.CertRead', WHERE WHAT IT READS IS OF BULK AT MOST 1048576: true; the input reads as it did. -/
def certReadUptoRow : OpenClaim := { program := "ytfgfckgbefnnaaagreat", sum := "906bff0d820184f6e4a2658f1d9479b663fa4f05c058bc4161754a5db9619734", func := "parterre/parterrelaw17.CertRead", spec := "certRead", unfollowed := true, recurses := true, apart := false, narrowed := true }
def CertReadUptoSaid : Prop := certReadUptoRow.holds Tryz.pinned (OpenSpec.upto certReadSpec)

end Rows
end Go.Proofs.YtfgfckgbefnnaaaGreat
