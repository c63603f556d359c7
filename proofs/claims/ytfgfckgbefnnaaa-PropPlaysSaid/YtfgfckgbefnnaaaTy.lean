/- Facts of the types of the program of this seat. -/
import Derived.Test.YtfgfckgbefnnaaaProg
import Derived.KernelRfl
import Derived.Test.YtfgfckgbefnnaaaShU
set_option linter.unusedVariables false
namespace Go.Proofs.Ytfgfckgbefnnaaa
open Go Go.Sh
theorem mixed : Try.prog.follows .mixedOrders = true := by kernel_rfl
theorem in3 : InfoIs Try.prog 3 (.int .i64 0) 1 8 := by unfold InfoIs; kernel_rfl
theorem ty3 : Ty Try.prog 3 1 false := Ty.of rfl Try.underlying3 in3
theorem in4 : InfoIs Try.prog 4 (.bool false) 1 1 := by unfold InfoIs; kernel_rfl
theorem ty4 : Ty Try.prog 4 1 false := Ty.of rfl Try.underlying4 in4
theorem in22 : InfoIs Try.prog 22 (.slice none 0 0) 1 24 := by unfold InfoIs; kernel_rfl
theorem ty22 : Ty Try.prog 22 1 false := Ty.of rfl Try.underlying22 in22
theorem in23 : InfoIs Try.prog 23 (.slice none 0 0) 1 24 := by unfold InfoIs; kernel_rfl
theorem ty23 : Ty Try.prog 23 1 false := Ty.of rfl Try.underlying23 in23
theorem in24 : InfoIs Try.prog 24 (.slice none 0 0) 1 24 := by unfold InfoIs; kernel_rfl
theorem ty24 : Ty Try.prog 24 1 false := Ty.of rfl Try.underlying24 in24
theorem in26 : InfoIs Try.prog 26 (.agg #[.slice none 0 0, .int .i64 0, .int .i64 0, .slice none 0 0, .slice none 0 0]) 5 88 := by unfold InfoIs; kernel_rfl
theorem ty26 : Ty Try.prog 26 5 true := Ty.of rfl Try.underlying26 in26
theorem in27 : InfoIs Try.prog 27 (.slice none 0 0) 1 24 := by unfold InfoIs; kernel_rfl
theorem ty27 : Ty Try.prog 27 1 false := Ty.of rfl Try.underlying27 in27
theorem in46 : InfoIs Try.prog 46 (.agg #[.int .i64 0, .int .i64 0]) 2 16 := by unfold InfoIs; kernel_rfl
theorem in50 : InfoIs Try.prog 50 (.slice none 0 0) 1 24 := by unfold InfoIs; kernel_rfl
theorem ty50 : Ty Try.prog 50 1 false := Ty.of rfl Try.underlying50 in50
theorem in54 : InfoIs Try.prog 54 (.slice none 0 0) 1 24 := by unfold InfoIs; kernel_rfl
theorem ty54 : Ty Try.prog 54 1 false := Ty.of rfl Try.underlying54 in54
theorem in65 : InfoIs Try.prog 65 (.agg #[.int .i64 0, .int .i64 0, .int .i64 0, .int .i64 0]) 4 32 := by unfold InfoIs; kernel_rfl
theorem ty65 : Ty Try.prog 65 4 true := Ty.of rfl Try.underlying65 in65
theorem in67 : InfoIs Try.prog 67 (.agg #[.int .i64 0, .int .i64 0]) 2 16 := by unfold InfoIs; kernel_rfl
theorem ty67 : Ty Try.prog 67 2 true := Ty.of rfl Try.underlying67 in67
theorem in77 : InfoIs Try.prog 77 (.agg #[.slice none 0 0, .int .i64 0, .int .i64 0, .slice none 0 0, .slice none 0 0, .slice none 0 0]) 6 112 := by unfold InfoIs; kernel_rfl
theorem ty77 : Ty Try.prog 77 6 true := Ty.of rfl Try.underlying77 in77
theorem in78 : InfoIs Try.prog 78 (.map none) 1 8 := by unfold InfoIs; kernel_rfl
theorem ty78 : Ty Try.prog 78 1 false := Ty.of rfl Try.underlying78 in78
theorem in80 : InfoIs Try.prog 80 (.agg #[.slice none 0 0, .int .i64 0, .int .i64 0, .slice none 0 0, .slice none 0 0, .slice none 0 0, .slice none 0 0, .map none]) 8 144 := by unfold InfoIs; kernel_rfl
theorem ty80 : Ty Try.prog 80 8 true := Ty.of rfl Try.underlying80 in80
theorem in83 : InfoIs Try.prog 83 (.slice none 0 0) 1 24 := by unfold InfoIs; kernel_rfl
theorem ty83 : Ty Try.prog 83 1 false := Ty.of rfl Try.underlying83 in83
theorem in87 : InfoIs Try.prog 87 (.slice none 0 0) 1 24 := by unfold InfoIs; kernel_rfl
theorem ty87 : Ty Try.prog 87 1 false := Ty.of rfl Try.underlying87 in87
theorem in89 : InfoIs Try.prog 89 (.agg #[.slice none 0 0, .int .i64 0, .int .i64 0, .slice none 0 0, .slice none 0 0, .slice none 0 0, .slice none 0 0, .map none, .slice none 0 0, .slice none 0 0]) 10 192 := by unfold InfoIs; kernel_rfl
theorem in96 : InfoIs Try.prog 96 (.agg #[.int .i64 0, .int .i64 0]) 2 16 := by unfold InfoIs; kernel_rfl
theorem ty96 : Ty Try.prog 96 2 true := Ty.of rfl Try.underlying96 in96
theorem in130 : InfoIs Try.prog 130 (.agg #[.slice none 0 0, .int .i64 0, .int .i64 0, .slice none 0 0, .slice none 0 0, .slice none 0 0]) 6 112 := by unfold InfoIs; kernel_rfl
theorem in133 : InfoIs Try.prog 133 (.agg #[.int .i64 0, .int .i64 0, .int .i64 0]) 3 24 := by unfold InfoIs; kernel_rfl
theorem ty133 : Ty Try.prog 133 3 true := Ty.of rfl Try.underlying133 in133
theorem sl22 : Sl Try.prog 22 65 4 := Sl.of Try.underlying22 in65 (by decide) rfl (by decide)
theorem sl23 : Sl Try.prog 23 3 1 := Sl.of Try.underlying23 in3 (by decide) rfl (by decide)
theorem sl24 : Sl Try.prog 24 133 3 := Sl.of Try.underlying24 in133 (by decide) rfl (by decide)
theorem fl26_0 : Fld Try.prog 26 0 0 := Fld.of Try.underlying26 rfl in22
theorem fl26_1 : Fld Try.prog 26 1 1 := Fld.of Try.underlying26 rfl in3
theorem fl26_2 : Fld Try.prog 26 2 2 := Fld.of Try.underlying26 rfl in3
theorem fl26_3 : Fld Try.prog 26 3 3 := Fld.of Try.underlying26 rfl in23
theorem fl26_4 : Fld Try.prog 26 4 4 := Fld.of Try.underlying26 rfl in24
theorem bu26 : Bu Try.prog 26 [(0, 1), (1, 1), (2, 1), (3, 1), (4, 1)] [.v (.slice none 0 0), .v (.int .i64 0), .v (.int .i64 0), .v (.slice none 0 0), .v (.slice none 0 0)] := Bu.of Try.underlying26 in26 (by kernel_rfl) rfl
theorem sl27 : Sl Try.prog 27 67 2 := Sl.of Try.underlying27 in67 (by decide) rfl (by decide)
theorem sl28 : Sl Try.prog 28 96 2 := Sl.of Try.underlying28 in96 (by decide) rfl (by decide)
theorem sl44 : Sl Try.prog 44 46 2 := Sl.of Try.underlying44 in46 (by decide) rfl (by decide)
theorem fl46_0 : Fld Try.prog 46 0 0 := Fld.of Try.underlying46 rfl in3
theorem fl46_1 : Fld Try.prog 46 1 1 := Fld.of Try.underlying46 rfl in3
theorem sl50 : Sl Try.prog 50 3 1 := Sl.of Try.underlying50 in3 (by decide) rfl (by decide)
theorem sl54 : Sl Try.prog 54 4 1 := Sl.of Try.underlying54 in4 (by decide) rfl (by decide)
theorem fl65_0 : Fld Try.prog 65 0 0 := Fld.of Try.underlying65 rfl in3
theorem fl65_1 : Fld Try.prog 65 1 1 := Fld.of Try.underlying65 rfl in3
theorem fl65_2 : Fld Try.prog 65 2 2 := Fld.of Try.underlying65 rfl in3
theorem fl65_3 : Fld Try.prog 65 3 3 := Fld.of Try.underlying65 rfl in3
theorem bu65 : Bu Try.prog 65 [(0, 1), (1, 1), (2, 1), (3, 1)] [.v (.int .i64 0), .v (.int .i64 0), .v (.int .i64 0), .v (.int .i64 0)] := Bu.of Try.underlying65 in65 (by kernel_rfl) rfl
theorem fl67_0 : Fld Try.prog 67 0 0 := Fld.of Try.underlying67 rfl in3
theorem fl67_1 : Fld Try.prog 67 1 1 := Fld.of Try.underlying67 rfl in3
theorem bu67 : Bu Try.prog 67 [(0, 1), (1, 1)] [.v (.int .i64 0), .v (.int .i64 0)] := Bu.of Try.underlying67 in67 (by kernel_rfl) rfl
theorem fl77_0 : Fld Try.prog 77 0 0 := Fld.of Try.underlying77 rfl in26
theorem fl77_1 : Fld Try.prog 77 1 5 := Fld.of Try.underlying77 rfl in54
theorem bu77 : Bu Try.prog 77 [(0, 5), (5, 1)] [.v (.slice none 0 0), .v (.int .i64 0), .v (.int .i64 0), .v (.slice none 0 0), .v (.slice none 0 0), .v (.slice none 0 0)] := Bu.of Try.underlying77 in77 (by kernel_rfl) rfl
theorem fl80_0 : Fld Try.prog 80 0 0 := Fld.of Try.underlying80 rfl in77
theorem fl80_1 : Fld Try.prog 80 1 6 := Fld.of Try.underlying80 rfl in27
theorem fl80_2 : Fld Try.prog 80 2 7 := Fld.of Try.underlying80 rfl in78
theorem bu80 : Bu Try.prog 80 [(0, 6), (6, 1), (7, 1)] [.v (.slice none 0 0), .v (.int .i64 0), .v (.int .i64 0), .v (.slice none 0 0), .v (.slice none 0 0), .v (.slice none 0 0), .v (.slice none 0 0), .v (.map none)] := Bu.of Try.underlying80 in80 (by kernel_rfl) rfl
theorem sl83 : Sl Try.prog 83 23 1 := Sl.of Try.underlying83 in23 (by decide) rfl (by decide)
theorem sl87 : Sl Try.prog 87 83 1 := Sl.of Try.underlying87 in83 (by decide) rfl (by decide)
theorem fl89_0 : Fld Try.prog 89 0 0 := Fld.of Try.underlying89 rfl in80
theorem fl89_1 : Fld Try.prog 89 1 8 := Fld.of Try.underlying89 rfl in87
theorem fl89_2 : Fld Try.prog 89 2 9 := Fld.of Try.underlying89 rfl in50
theorem bu89 : Bu Try.prog 89 [(0, 8), (8, 1), (9, 1)] [.v (.slice none 0 0), .v (.int .i64 0), .v (.int .i64 0), .v (.slice none 0 0), .v (.slice none 0 0), .v (.slice none 0 0), .v (.slice none 0 0), .v (.map none), .v (.slice none 0 0), .v (.slice none 0 0)] := Bu.of Try.underlying89 in89 (by kernel_rfl) rfl
theorem fl96_0 : Fld Try.prog 96 0 0 := Fld.of Try.underlying96 rfl in3
theorem fl96_1 : Fld Try.prog 96 1 1 := Fld.of Try.underlying96 rfl in3
theorem bu96 : Bu Try.prog 96 [(0, 1), (1, 1)] [.v (.int .i64 0), .v (.int .i64 0)] := Bu.of Try.underlying96 in96 (by kernel_rfl) rfl
theorem fl130_0 : Fld Try.prog 130 0 0 := Fld.of Try.underlying130 rfl in26
theorem fl130_1 : Fld Try.prog 130 1 5 := Fld.of Try.underlying130 rfl in54
theorem bu130 : Bu Try.prog 130 [(0, 5), (5, 1)] [.v (.slice none 0 0), .v (.int .i64 0), .v (.int .i64 0), .v (.slice none 0 0), .v (.slice none 0 0), .v (.slice none 0 0)] := Bu.of Try.underlying130 in130 (by kernel_rfl) rfl
theorem fl133_0 : Fld Try.prog 133 0 0 := Fld.of Try.underlying133 rfl in3
theorem fl133_1 : Fld Try.prog 133 1 1 := Fld.of Try.underlying133 rfl in3
theorem fl133_2 : Fld Try.prog 133 2 2 := Fld.of Try.underlying133 rfl in3
theorem bu133 : Bu Try.prog 133 [(0, 1), (1, 1), (2, 1)] [.v (.int .i64 0), .v (.int .i64 0), .v (.int .i64 0)] := Bu.of Try.underlying133 in133 (by kernel_rfl) rfl
end Go.Proofs.Ytfgfckgbefnnaaa
