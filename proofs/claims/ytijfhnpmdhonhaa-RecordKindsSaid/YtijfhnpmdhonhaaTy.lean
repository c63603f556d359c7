/- Facts of the types of the program of this seat. -/
import Derived.Test.YtijfhnpmdhonhaaProg
import Derived.KernelRfl
import Derived.Test.YtijfhnpmdhonhaaShP
set_option linter.unusedVariables false
namespace Go.Proofs.Ytijfhnpmdhonhaa
open Go Go.Sh
theorem mixed : Try.prog.follows .mixedOrders = true := by kernel_rfl
theorem in2 : InfoIs Try.prog 2 (.int .i64 0) 1 8 := by unfold InfoIs; kernel_rfl
theorem ty2 : Ty Try.prog 2 1 false := Ty.of rfl Try.underlying2 in2
theorem in3 : InfoIs Try.prog 3 (.int .i64 0) 1 8 := by unfold InfoIs; kernel_rfl
theorem ty3 : Ty Try.prog 3 1 false := Ty.of rfl Try.underlying3 in3
theorem in4 : InfoIs Try.prog 4 (.bool false) 1 1 := by unfold InfoIs; kernel_rfl
theorem ty4 : Ty Try.prog 4 1 false := Ty.of rfl Try.underlying4 in4
theorem in5 : InfoIs Try.prog 5 (.int .u8 0) 1 1 := by unfold InfoIs; kernel_rfl
theorem ty5 : Ty Try.prog 5 1 false := Ty.of rfl Try.underlying5 in5
theorem in9 : InfoIs Try.prog 9 (.string ⟨#[]⟩) 1 16 := by unfold InfoIs; kernel_rfl
theorem ty9 : Ty Try.prog 9 1 false := Ty.of rfl Try.underlying9 in9
theorem in23 : InfoIs Try.prog 23 (.agg #[.int .i64 0, .int .i64 0]) 2 16 := by unfold InfoIs; kernel_rfl
theorem ty23 : Ty Try.prog 23 2 true := Ty.of rfl Try.underlying23 in23
theorem in24 : InfoIs Try.prog 24 (.slice none 0 0) 1 24 := by unfold InfoIs; kernel_rfl
theorem ty24 : Ty Try.prog 24 1 false := Ty.of rfl Try.underlying24 in24
theorem in26 : InfoIs Try.prog 26 (.nilFunc) 1 8 := by unfold InfoIs; kernel_rfl
theorem ty26 : Ty Try.prog 26 1 false := Ty.of rfl Try.underlying26 in26
theorem in31 : InfoIs Try.prog 31 (.int .u64 0) 1 8 := by unfold InfoIs; kernel_rfl
theorem ty31 : Ty Try.prog 31 1 false := Ty.of rfl Try.underlying31 in31
theorem in34 : InfoIs Try.prog 34 (.slice none 0 0) 1 24 := by unfold InfoIs; kernel_rfl
theorem ty34 : Ty Try.prog 34 1 false := Ty.of rfl Try.underlying34 in34
theorem in35 : InfoIs Try.prog 35 (.slice none 0 0) 1 24 := by unfold InfoIs; kernel_rfl
theorem ty35 : Ty Try.prog 35 1 false := Ty.of rfl Try.underlying35 in35
theorem in49 : InfoIs Try.prog 49 (.agg #[.int .i64 0, .int .i64 0, .int .i64 0, .int .i64 0, .int .i64 0, .int .i64 0]) 6 48 := by unfold InfoIs; kernel_rfl
theorem ty49 : Ty Try.prog 49 6 true := Ty.of rfl Try.underlying49 in49
theorem in51 : InfoIs Try.prog 51 (.agg #[.int .i64 0, .string ⟨#[]⟩, .int .i64 0, .int .i64 0, .int .i64 0, .int .i64 0, .int .i64 0, .int .i64 0, .int .i64 0]) 9 80 := by unfold InfoIs; kernel_rfl
theorem ty51 : Ty Try.prog 51 9 true := Ty.of rfl Try.underlying51 in51
theorem in63 : InfoIs Try.prog 63 (.slice none 0 0) 1 24 := by unfold InfoIs; kernel_rfl
theorem ty63 : Ty Try.prog 63 1 false := Ty.of rfl Try.underlying63 in63
theorem in68 : InfoIs Try.prog 68 (.int .u32 0) 1 4 := by unfold InfoIs; kernel_rfl
theorem ty68 : Ty Try.prog 68 1 false := Ty.of rfl Try.underlying68 in68
theorem in78 : InfoIs Try.prog 78 (.int .u64 0) 1 8 := by unfold InfoIs; kernel_rfl
theorem ty78 : Ty Try.prog 78 1 false := Ty.of rfl Try.underlying78 in78
theorem fl23_0 : Fld Try.prog 23 0 0 := Fld.of Try.underlying23 rfl in3
theorem fl23_1 : Fld Try.prog 23 1 1 := Fld.of Try.underlying23 rfl in3
theorem bu23 : Bu Try.prog 23 [(0, 1), (1, 1)] [.v (.int .i64 0), .v (.int .i64 0)] := Bu.of Try.underlying23 in23 (by kernel_rfl) rfl
theorem sl24 : Sl Try.prog 24 23 2 := Sl.of Try.underlying24 in23 (by decide) rfl (by decide)
theorem sl34 : Sl Try.prog 34 4 1 := Sl.of Try.underlying34 in4 (by decide) rfl (by decide)
theorem sl35 : Sl Try.prog 35 5 1 := Sl.of Try.underlying35 in5 (by decide) rfl (by decide)
theorem fl49_0 : Fld Try.prog 49 0 0 := Fld.of Try.underlying49 rfl in3
theorem fl49_1 : Fld Try.prog 49 1 1 := Fld.of Try.underlying49 rfl in3
theorem fl49_2 : Fld Try.prog 49 2 2 := Fld.of Try.underlying49 rfl in23
theorem fl49_3 : Fld Try.prog 49 3 4 := Fld.of Try.underlying49 rfl in2
theorem fl49_4 : Fld Try.prog 49 4 5 := Fld.of Try.underlying49 rfl in3
theorem bu49 : Bu Try.prog 49 [(0, 1), (1, 1), (2, 2), (4, 1), (5, 1)] [.v (.int .i64 0), .v (.int .i64 0), .v (.int .i64 0), .v (.int .i64 0), .v (.int .i64 0), .v (.int .i64 0)] := Bu.of Try.underlying49 in49 (by kernel_rfl) rfl
theorem fl51_0 : Fld Try.prog 51 0 0 := Fld.of Try.underlying51 rfl in3
theorem fl51_1 : Fld Try.prog 51 1 1 := Fld.of Try.underlying51 rfl in9
theorem fl51_2 : Fld Try.prog 51 2 2 := Fld.of Try.underlying51 rfl in49
theorem fl51_3 : Fld Try.prog 51 3 8 := Fld.of Try.underlying51 rfl in2
theorem bu51 : Bu Try.prog 51 [(0, 1), (1, 1), (2, 6), (8, 1)] [.v (.int .i64 0), .v (.string ⟨#[]⟩), .v (.int .i64 0), .v (.int .i64 0), .v (.int .i64 0), .v (.int .i64 0), .v (.int .i64 0), .v (.int .i64 0), .v (.int .i64 0)] := Bu.of Try.underlying51 in51 (by kernel_rfl) rfl
theorem sl63 : Sl Try.prog 63 2 1 := Sl.of Try.underlying63 in2 (by decide) rfl (by decide)
end Go.Proofs.Ytijfhnpmdhonhaa
