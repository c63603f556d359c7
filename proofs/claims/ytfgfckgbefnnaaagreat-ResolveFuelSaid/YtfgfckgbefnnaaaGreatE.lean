/- Structs are compared field by field. -/
import Derived.Test.YtfgfckgbefnnaaaGreatTy
import Derived.Test.YtfgfckgbefnnaaaGreatX
set_option linter.unusedVariables false
set_option maxHeartbeats 4000000
set_option linter.unusedSimpArgs false
set_option maxRecDepth 100000
namespace Go.Proofs.YtfgfckgbefnnaaaGreat
open Go Go.Sh Go.Px
def us_Party (p:Party):List Value:=[.int .i64 p.Size,.int .i64 p.Wheels]
theorem eqr_Party (p q:Party) (w:World):(Op.equalIn 10000 48 (.agg (us_Party p).toArray) (.agg (us_Party q).toArray)).run Tryz.prog w = .ok (p.Size == q.Size && (p.Wheels == q.Wheels)) w :=
  eqA_of Tryz.underlying48 (by kernel_rfl) (eqf_cons rfl (part_one ty3 rfl) (part_one ty3 rfl) (eqIn_int Tryz.underlying3) (eqf_last rfl (part_one ty3 rfl) (part_one ty3 rfl) (eqIn_int Tryz.underlying3)))
theorem eqd_Party (p q:Party):(p.Size == q.Size && (p.Wheels == q.Wheels))=decide (p=q):=by
  obtain⟨a0,a1⟩:=p
  obtain⟨b0,b1⟩:=q
  rw[Bool.eq_iff_iff]
  simp [and_assoc,baeq]
theorem eq_Party (p q:Party) {x y:Operand} (w:World):(binS .eql 48 x y (.agg (us_Party p).toArray) (.agg (us_Party q).toArray)).run Tryz.prog w = .ok (.bool (decide (p=q))) w:=by
  rw[eqB_of (by kernel_rfl) (eqr_Party p q w),eqd_Party]
theorem ne_Party (p q:Party) {x y:Operand} (w:World):(binS .neq 48 x y (.agg (us_Party p).toArray) (.agg (us_Party q).toArray)).run Tryz.prog w = .ok (.bool (!decide (p=q))) w:=by
  rw[neB_of (by kernel_rfl) (eqr_Party p q w),eqd_Party]
def us_Pin (p:Pin):List Value:=[.int .i64 p.Party,.int .i64 p.First]
theorem eqr_Pin (p q:Pin) (w:World):(Op.equalIn 10000 87 (.agg (us_Pin p).toArray) (.agg (us_Pin q).toArray)).run Tryz.prog w = .ok (p.Party == q.Party && (p.First == q.First)) w :=
  eqA_of Tryz.underlying87 (by kernel_rfl) (eqf_cons rfl (part_one ty3 rfl) (part_one ty3 rfl) (eqIn_int Tryz.underlying3) (eqf_last rfl (part_one ty3 rfl) (part_one ty3 rfl) (eqIn_int Tryz.underlying3)))
theorem eqd_Pin (p q:Pin):(p.Party == q.Party && (p.First == q.First))=decide (p=q):=by
  obtain⟨a0,a1⟩:=p
  obtain⟨b0,b1⟩:=q
  rw[Bool.eq_iff_iff]
  simp [and_assoc,baeq]
theorem eq_Pin (p q:Pin) {x y:Operand} (w:World):(binS .eql 87 x y (.agg (us_Pin p).toArray) (.agg (us_Pin q).toArray)).run Tryz.prog w = .ok (.bool (decide (p=q))) w:=by
  rw[eqB_of (by kernel_rfl) (eqr_Pin p q w),eqd_Pin]
theorem ne_Pin (p q:Pin) {x y:Operand} (w:World):(binS .neq 87 x y (.agg (us_Pin p).toArray) (.agg (us_Pin q).toArray)).run Tryz.prog w = .ok (.bool (!decide (p=q))) w:=by
  rw[neB_of (by kernel_rfl) (eqr_Pin p q w),eqd_Pin]
end Go.Proofs.YtfgfckgbefnnaaaGreat
