/- Structs are compared field by field. -/
import Derived.Test.YtijfhnpmdhonhaaTy
import Derived.Test.YtijfhnpmdhonhaaX
set_option linter.unusedVariables false
set_option linter.unusedSimpArgs false
set_option maxRecDepth 100000
namespace Go.Proofs.Ytijfhnpmdhonhaa
open Go Go.Sh Go.Px
def us_Party (p : Party) : List Value := [.int .i64 p.Size, .int .i64 p.Wheels]
theorem eqr_Party (p q : Party) (w : World) : (Op.equalIn 10000 23 (.agg (us_Party p).toArray) (.agg (us_Party q).toArray)).run Try.prog w = .ok (p.Size == q.Size && (p.Wheels == q.Wheels)) w :=
  eqA_of Try.underlying23 (by kernel_rfl) (eqf_cons rfl (part_one ty3 rfl) (part_one ty3 rfl) (eqIn_int Try.underlying3) (eqf_last rfl (part_one ty3 rfl) (part_one ty3 rfl) (eqIn_int Try.underlying3)))
theorem eqd_Party (p q : Party) : (p.Size == q.Size && (p.Wheels == q.Wheels)) = decide (p = q) := by
  obtain ⟨a0, a1⟩ := p
  obtain ⟨b0, b1⟩ := q
  rw [Bool.eq_iff_iff]
  simp [and_assoc, baeq]
theorem eq_Party (p q : Party) {x y : Operand} (w : World) : (binS .eql 23 x y (.agg (us_Party p).toArray) (.agg (us_Party q).toArray)).run Try.prog w = .ok (.bool (decide (p = q))) w := by
  rw [eqB_of (by kernel_rfl) (eqr_Party p q w), eqd_Party]
theorem ne_Party (p q : Party) {x y : Operand} (w : World) : (binS .neq 23 x y (.agg (us_Party p).toArray) (.agg (us_Party q).toArray)).run Try.prog w = .ok (.bool (!decide (p = q))) w := by
  rw [neB_of (by kernel_rfl) (eqr_Party p q w), eqd_Party]
def us_Record (p : Record) : List Value := [.int .i64 p.Kind, .string p.Text, .int .i64 p.Order.Id, .int .i64 p.Order.State, .int .i64 p.Order.Party.Size, .int .i64 p.Order.Party.Wheels, .int .i64 p.Order.Until, .int .i64 p.Order.First, .int .i64 p.Time]
theorem eqr_Record (p q : Record) (w : World) : (Op.equalIn 10000 51 (.agg (us_Record p).toArray) (.agg (us_Record q).toArray)).run Try.prog w = .ok (p.Kind == q.Kind && (p.Text == q.Text && ((p.Order.Id == q.Order.Id && (p.Order.State == q.Order.State && ((p.Order.Party.Size == q.Order.Party.Size && (p.Order.Party.Wheels == q.Order.Party.Wheels)) && (p.Order.Until == q.Order.Until && (p.Order.First == q.Order.First))))) && (p.Time == q.Time)))) w :=
  eqA_of Try.underlying51 (by kernel_rfl) (eqf_cons rfl (part_one ty3 rfl) (part_one ty3 rfl) (eqIn_int Try.underlying3) (eqf_cons rfl (part_one ty9 rfl) (part_one ty9 rfl) (eqIn_str Try.underlying9) (eqf_cons rfl (part_agg ty49) (part_agg ty49) (eqA_of Try.underlying49 (by kernel_rfl) (eqf_cons rfl (part_one ty3 rfl) (part_one ty3 rfl) (eqIn_int Try.underlying3) (eqf_cons rfl (part_one ty3 rfl) (part_one ty3 rfl) (eqIn_int Try.underlying3) (eqf_cons rfl (part_agg ty23) (part_agg ty23) (eqA_of Try.underlying23 (by kernel_rfl) (eqf_cons rfl (part_one ty3 rfl) (part_one ty3 rfl) (eqIn_int Try.underlying3) (eqf_last rfl (part_one ty3 rfl) (part_one ty3 rfl) (eqIn_int Try.underlying3)))) (eqf_cons rfl (part_one ty2 rfl) (part_one ty2 rfl) (eqIn_int Try.underlying2) (eqf_last rfl (part_one ty3 rfl) (part_one ty3 rfl) (eqIn_int Try.underlying3))))))) (eqf_last rfl (part_one ty2 rfl) (part_one ty2 rfl) (eqIn_int Try.underlying2)))))
theorem eqd_Record (p q : Record) : (p.Kind == q.Kind && (p.Text == q.Text && ((p.Order.Id == q.Order.Id && (p.Order.State == q.Order.State && ((p.Order.Party.Size == q.Order.Party.Size && (p.Order.Party.Wheels == q.Order.Party.Wheels)) && (p.Order.Until == q.Order.Until && (p.Order.First == q.Order.First))))) && (p.Time == q.Time)))) = decide (p = q) := by
  obtain ⟨a0, a1, ⟨a2, a3, ⟨a4, a5⟩, a6, a7⟩, a8⟩ := p
  obtain ⟨b0, b1, ⟨b2, b3, ⟨b4, b5⟩, b6, b7⟩, b8⟩ := q
  rw [Bool.eq_iff_iff]
  simp [and_assoc, baeq]
theorem eq_Record (p q : Record) {x y : Operand} (w : World) : (binS .eql 51 x y (.agg (us_Record p).toArray) (.agg (us_Record q).toArray)).run Try.prog w = .ok (.bool (decide (p = q))) w := by
  rw [eqB_of (by kernel_rfl) (eqr_Record p q w), eqd_Record]
theorem ne_Record (p q : Record) {x y : Operand} (w : World) : (binS .neq 51 x y (.agg (us_Record p).toArray) (.agg (us_Record q).toArray)).run Try.prog w = .ok (.bool (!decide (p = q))) w := by
  rw [neB_of (by kernel_rfl) (eqr_Record p q w), eqd_Record]
def us_Order (p : Order) : List Value := [.int .i64 p.Id, .int .i64 p.State, .int .i64 p.Party.Size, .int .i64 p.Party.Wheels, .int .i64 p.Until, .int .i64 p.First]
theorem eqr_Order (p q : Order) (w : World) : (Op.equalIn 10000 49 (.agg (us_Order p).toArray) (.agg (us_Order q).toArray)).run Try.prog w = .ok (p.Id == q.Id && (p.State == q.State && ((p.Party.Size == q.Party.Size && (p.Party.Wheels == q.Party.Wheels)) && (p.Until == q.Until && (p.First == q.First))))) w :=
  eqA_of Try.underlying49 (by kernel_rfl) (eqf_cons rfl (part_one ty3 rfl) (part_one ty3 rfl) (eqIn_int Try.underlying3) (eqf_cons rfl (part_one ty3 rfl) (part_one ty3 rfl) (eqIn_int Try.underlying3) (eqf_cons rfl (part_agg ty23) (part_agg ty23) (eqA_of Try.underlying23 (by kernel_rfl) (eqf_cons rfl (part_one ty3 rfl) (part_one ty3 rfl) (eqIn_int Try.underlying3) (eqf_last rfl (part_one ty3 rfl) (part_one ty3 rfl) (eqIn_int Try.underlying3)))) (eqf_cons rfl (part_one ty2 rfl) (part_one ty2 rfl) (eqIn_int Try.underlying2) (eqf_last rfl (part_one ty3 rfl) (part_one ty3 rfl) (eqIn_int Try.underlying3))))))
theorem eqd_Order (p q : Order) : (p.Id == q.Id && (p.State == q.State && ((p.Party.Size == q.Party.Size && (p.Party.Wheels == q.Party.Wheels)) && (p.Until == q.Until && (p.First == q.First))))) = decide (p = q) := by
  obtain ⟨a0, a1, ⟨a2, a3⟩, a4, a5⟩ := p
  obtain ⟨b0, b1, ⟨b2, b3⟩, b4, b5⟩ := q
  rw [Bool.eq_iff_iff]
  simp [and_assoc, baeq]
theorem eq_Order (p q : Order) {x y : Operand} (w : World) : (binS .eql 49 x y (.agg (us_Order p).toArray) (.agg (us_Order q).toArray)).run Try.prog w = .ok (.bool (decide (p = q))) w := by
  rw [eqB_of (by kernel_rfl) (eqr_Order p q w), eqd_Order]
theorem ne_Order (p q : Order) {x y : Operand} (w : World) : (binS .neq 49 x y (.agg (us_Order p).toArray) (.agg (us_Order q).toArray)).run Try.prog w = .ok (.bool (!decide (p = q))) w := by
  rw [neB_of (by kernel_rfl) (eqr_Order p q w), eqd_Order]
end Go.Proofs.Ytijfhnpmdhonhaa
