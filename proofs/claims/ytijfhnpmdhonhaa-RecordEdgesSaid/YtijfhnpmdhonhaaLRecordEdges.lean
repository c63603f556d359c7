/- RecordEdges: the law RecordEdges of the given program returns true at every input, and the input reads as before. No condition. -/
import Derived.Test.YtijfhnpmdhonhaaYRecordEdges1
import Derived.Test.YtijfhnpmdhonhaaRows
import Derived.ProofKit
import Derived.Test.YtijfhnpmdhonhaaPBase
import Derived.Test.YtijfhnpmdhonhaaPRecordEdges
set_option linter.unusedVariables false
set_option linter.unusedSimpArgs false
set_option maxRecDepth 100000
namespace Go.Proofs.Ytijfhnpmdhonhaa
open Go Go.Sh Go.Px Go.ChangeShapes Go.WideShapes Go.ChangeAt Go.RowKit
attribute [local irreducible] Go.Sh.T Go.Sh.RunT Go.Sh.RunD
theorem Try.own : ownKnob Try.prog.godebug = none := by kernel_rfl
theorem Try.laidOut : laidOutB Try.prog = true := by kernel_rfl
theorem op3 : Opens Try.prog 3 1 (fun n : Int => [SV.v (.int .i64 n)]) okI := (opens_int Try.underlying3 (by kernel_rfl)).map (fun x => x) (fun _ => rfl) (fun _ h => lit_i64 h) (fun _ => rfl)
theorem RecordEdges_ok (a0 : Int) (h0 : okI a0) (a1 : Int) (h1 : okI a1) : PC Try.prog false 12 [.v (.int .i64 a0), .v (.int .i64 a1)] (.v (.bool true)) := by
  obtain ⟨k, H⟩ := Go.Px.RecordEdges_true a0 h0 a1 h1
  exact law22_RecordEdges_pc false k a0 a1 true H
set_option maxRecDepth 100000 in
theorem recordEdges_lifted (os : Os) (started : os.Started) (H : Type) (enc : TypeId × Value → H) :
    ReturnsInHanded {} Try.checked os 12 .any (Rows.recordEdgesSpec.pre6 enc Try.prog Try.f12 Rows.recordEdgesRow.domain false) (Rows.recordEdgesSpec.post enc Try.prog Try.f12 false true false false) := by
  refine returnsInHanded_of_change (C := Try.checked) Try.own started (by kernel_rfl) Try.func12 (ChangeSpec.witness6 (enc := enc) (C := Try.checked) false ⟨#[], #[.int .i64 0, .int .i64 0], []⟩ 8 (by kernel_rfl) (by kernel_rfl) (by kernel_rfl) (by kernel_rfl)) ?_
  intro W base args ds gs before hval0 hW hcnd _
  have hval : ∀ (j : Nat) t v, Try.f12.params[j]? = some t → args[j]? = some v → Value.okWide Try.prog W .any base t v := hval0
  have hW' := hW
  obtain ⟨p, q, hA0, hV, hpq, hfz, hnd⟩ := hW
  have hA : DataW.TrodAll enc Try.prog W 0 (fun _ => true) true Try.f12.params.toList args.toList ds p := hA0
  rw [Try.params12] at hA hval
  obtain ⟨v0, vs0, d0, ds0, p0, q0, hargs, rfl, rfl, h0, r0⟩ := trodAll_cons hA
  obtain ⟨v1, vs1, d1, ds1, p1, q1, rfl, rfl, rfl, h1, r1⟩ := trodAll_cons r0
  obtain ⟨rfl, rfl, rfl⟩ := trodAll_nil r1
  obtain rfl : args = #[v0, v1] := by cases args; simp_all
  obtain ⟨rfl, rfl⟩ := trodVars_none hV
  obtain ⟨a0, k0, x0⟩ := (op3).one Try.underlying3 rfl (fun n => .v (.int .i64 n)) (fun _ => rfl) (hval 0 3 v0 rfl rfl) h0
  obtain ⟨a1, k1, x1⟩ := (op3).one Try.underlying3 rfl (fun n => .v (.int .i64 n)) (fun _ => rfl) (hval 1 3 v1 rfl rfl) h1
  exact PC.row Try.laidOut (RecordEdges_ok a0 k0 a1 k1) rfl (vrs_arr (vrs_cons x0 (vrs_cons x1 (vrs_nil)))) hW' rfl rfl (by kernel_rfl) rfl Try.underlying4
theorem RecordEdges_holds : Rows.RecordEdgesSaid :=
  OpenClaim.holds_of_wide 12 Try.f12 rfl rfl rfl rfl rfl rfl rfl ⟨rfl, rfl, rfl, rfl, rfl⟩ rfl rfl rfl rfl rfl (by kernel_rfl) Try.func12 (by kernel_rfl)
    (of_decide_eq_true (by kernel_rfl)) (by unfold Func.isWrapper; first | (rw [if_pos (by decide +kernel)]; kernel_rfl) | (rw [if_neg (by decide +kernel)]; exact ⟨rfl, rfl⟩))
    (fun os started H enc _ => recordEdges_lifted os started H enc)
end Go.Proofs.Ytijfhnpmdhonhaa
