/- Facts of the types of the program of this seat. -/
import Derived.Test.YtlfpkjlaajfjnaaProg
import Derived.KernelRfl
import Derived.Test.YtlfpkjlaajfjnaaShU
set_option linter.unusedVariables false
namespace Go.Proofs.Ytlfpkjlaajfjnaa
open Go Go.Sh
theorem mixed : Try.prog.follows .mixedOrders = true := by kernel_rfl
theorem in3 : InfoIs Try.prog 3 (.int .i64 0) 1 8 := by unfold InfoIs; kernel_rfl
theorem ty3 : Ty Try.prog 3 1 false := Ty.of rfl Try.underlying3 in3
theorem in4 : InfoIs Try.prog 4 (.bool false) 1 1 := by unfold InfoIs; kernel_rfl
theorem ty4 : Ty Try.prog 4 1 false := Ty.of rfl Try.underlying4 in4
theorem in22 : InfoIs Try.prog 22 (.slice none 0 0) 1 24 := by unfold InfoIs; kernel_rfl
theorem ty22 : Ty Try.prog 22 1 false := Ty.of rfl Try.underlying22 in22
theorem in23 : InfoIs Try.prog 23 (.slice none 0 0) 1 24 := by unfold InfoIs; kernel_rfl
theorem ty23 : Ty Try.prog 23 1 false := Ty.of rfl Try.underlying23 in23
theorem in24 : InfoIs Try.prog 24 (.slice none 0 0) 1 24 := by unfold InfoIs; kernel_rfl
theorem ty24 : Ty Try.prog 24 1 false := Ty.of rfl Try.underlying24 in24
theorem in26 : InfoIs Try.prog 26 (.agg #[.slice none 0 0, .int .i64 0, .int .i64 0, .slice none 0 0, .slice none 0 0]) 5 88 := by unfold InfoIs; kernel_rfl
theorem ty26 : Ty Try.prog 26 5 true := Ty.of rfl Try.underlying26 in26
theorem in28 : InfoIs Try.prog 28 (.agg #[.int .i64 0, .int .i64 0, .int .i64 0, .int .i64 0]) 4 32 := by unfold InfoIs; kernel_rfl
theorem ty28 : Ty Try.prog 28 4 true := Ty.of rfl Try.underlying28 in28
theorem in43 : InfoIs Try.prog 43 (.slice none 0 0) 1 24 := by unfold InfoIs; kernel_rfl
theorem ty43 : Ty Try.prog 43 1 false := Ty.of rfl Try.underlying43 in43
theorem in60 : InfoIs Try.prog 60 (.agg #[.int .i64 0, .int .i64 0, .int .i64 0]) 3 24 := by unfold InfoIs; kernel_rfl
theorem ty60 : Ty Try.prog 60 3 true := Ty.of rfl Try.underlying60 in60
theorem in66 : InfoIs Try.prog 66 (.agg #[.int .i64 0, .int .i64 0]) 2 16 := by unfold InfoIs; kernel_rfl
theorem ty66 : Ty Try.prog 66 2 true := Ty.of rfl Try.underlying66 in66
theorem in76 : InfoIs Try.prog 76 (.slice none 0 0) 1 24 := by unfold InfoIs; kernel_rfl
theorem ty76 : Ty Try.prog 76 1 false := Ty.of rfl Try.underlying76 in76
theorem in79 : InfoIs Try.prog 79 (.slice none 0 0) 1 24 := by unfold InfoIs; kernel_rfl
theorem ty79 : Ty Try.prog 79 1 false := Ty.of rfl Try.underlying79 in79
theorem in83 : InfoIs Try.prog 83 (.agg #[.int .i64 0, .int .i64 0]) 2 16 := by unfold InfoIs; kernel_rfl
theorem ty83 : Ty Try.prog 83 2 true := Ty.of rfl Try.underlying83 in83
theorem in87 : InfoIs Try.prog 87 (.slice none 0 0) 1 24 := by unfold InfoIs; kernel_rfl
theorem ty87 : Ty Try.prog 87 1 false := Ty.of rfl Try.underlying87 in87
theorem in96 : InfoIs Try.prog 96 (.agg #[.slice none 0 0, .int .i64 0, .int .i64 0, .slice none 0 0, .slice none 0 0, .slice none 0 0, .slice none 0 0, .slice none 0 0]) 8 160 := by unfold InfoIs; kernel_rfl
theorem ty96 : Ty Try.prog 96 8 true := Ty.of rfl Try.underlying96 in96
theorem in115 : InfoIs Try.prog 115 (.agg #[.slice none 0 0, .int .i64 0, .int .i64 0, .slice none 0 0, .slice none 0 0, .slice none 0 0]) 6 112 := by unfold InfoIs; kernel_rfl
theorem ty115 : Ty Try.prog 115 6 true := Ty.of rfl Try.underlying115 in115
theorem in125 : InfoIs Try.prog 125 (.map none) 1 8 := by unfold InfoIs; kernel_rfl
theorem ty125 : Ty Try.prog 125 1 false := Ty.of rfl Try.underlying125 in125
theorem in127 : InfoIs Try.prog 127 (.agg #[.slice none 0 0, .int .i64 0, .int .i64 0, .slice none 0 0, .slice none 0 0, .slice none 0 0, .slice none 0 0, .map none]) 8 144 := by unfold InfoIs; kernel_rfl
theorem ty127 : Ty Try.prog 127 8 true := Ty.of rfl Try.underlying127 in127
theorem in148 : InfoIs Try.prog 148 (.agg #[.slice none 0 0, .int .i64 0, .int .i64 0, .slice none 0 0, .slice none 0 0, .slice none 0 0]) 6 112 := by unfold InfoIs; kernel_rfl
theorem sl22 : Sl Try.prog 22 28 4 := Sl.of Try.underlying22 in28 (by decide) rfl (by decide)
theorem sl23 : Sl Try.prog 23 3 1 := Sl.of Try.underlying23 in3 (by decide) rfl (by decide)
theorem sl24 : Sl Try.prog 24 60 3 := Sl.of Try.underlying24 in60 (by decide) rfl (by decide)
theorem fl26_0 : Fld Try.prog 26 0 0 := Fld.of Try.underlying26 rfl in22
theorem fl26_1 : Fld Try.prog 26 1 1 := Fld.of Try.underlying26 rfl in3
theorem fl26_2 : Fld Try.prog 26 2 2 := Fld.of Try.underlying26 rfl in3
theorem fl26_3 : Fld Try.prog 26 3 3 := Fld.of Try.underlying26 rfl in23
theorem fl26_4 : Fld Try.prog 26 4 4 := Fld.of Try.underlying26 rfl in24
theorem bu26 : Bu Try.prog 26 [(0, 1), (1, 1), (2, 1), (3, 1), (4, 1)] [.v (.slice none 0 0), .v (.int .i64 0), .v (.int .i64 0), .v (.slice none 0 0), .v (.slice none 0 0)] := Bu.of Try.underlying26 in26 (by kernel_rfl) rfl
theorem fl28_0 : Fld Try.prog 28 0 0 := Fld.of Try.underlying28 rfl in3
theorem fl28_1 : Fld Try.prog 28 1 1 := Fld.of Try.underlying28 rfl in3
theorem fl28_2 : Fld Try.prog 28 2 2 := Fld.of Try.underlying28 rfl in3
theorem fl28_3 : Fld Try.prog 28 3 3 := Fld.of Try.underlying28 rfl in3
theorem bu28 : Bu Try.prog 28 [(0, 1), (1, 1), (2, 1), (3, 1)] [.v (.int .i64 0), .v (.int .i64 0), .v (.int .i64 0), .v (.int .i64 0)] := Bu.of Try.underlying28 in28 (by kernel_rfl) rfl
theorem sl35 : Sl Try.prog 35 23 1 := Sl.of Try.underlying35 in23 (by decide) rfl (by decide)
theorem sl43 : Sl Try.prog 43 4 1 := Sl.of Try.underlying43 in4 (by decide) rfl (by decide)
theorem fl60_0 : Fld Try.prog 60 0 0 := Fld.of Try.underlying60 rfl in3
theorem fl60_1 : Fld Try.prog 60 1 1 := Fld.of Try.underlying60 rfl in3
theorem fl60_2 : Fld Try.prog 60 2 2 := Fld.of Try.underlying60 rfl in3
theorem bu60 : Bu Try.prog 60 [(0, 1), (1, 1), (2, 1)] [.v (.int .i64 0), .v (.int .i64 0), .v (.int .i64 0)] := Bu.of Try.underlying60 in60 (by kernel_rfl) rfl
theorem fl66_0 : Fld Try.prog 66 0 0 := Fld.of Try.underlying66 rfl in3
theorem fl66_1 : Fld Try.prog 66 1 1 := Fld.of Try.underlying66 rfl in3
theorem bu66 : Bu Try.prog 66 [(0, 1), (1, 1)] [.v (.int .i64 0), .v (.int .i64 0)] := Bu.of Try.underlying66 in66 (by kernel_rfl) rfl
theorem sl76 : Sl Try.prog 76 66 2 := Sl.of Try.underlying76 in66 (by decide) rfl (by decide)
theorem sl79 : Sl Try.prog 79 83 2 := Sl.of Try.underlying79 in83 (by decide) rfl (by decide)
theorem fl83_0 : Fld Try.prog 83 0 0 := Fld.of Try.underlying83 rfl in3
theorem fl83_1 : Fld Try.prog 83 1 1 := Fld.of Try.underlying83 rfl in3
theorem bu83 : Bu Try.prog 83 [(0, 1), (1, 1)] [.v (.int .i64 0), .v (.int .i64 0)] := Bu.of Try.underlying83 in83 (by kernel_rfl) rfl
theorem sl87 : Sl Try.prog 87 3 1 := Sl.of Try.underlying87 in3 (by decide) rfl (by decide)
theorem fl96_0 : Fld Try.prog 96 0 0 := Fld.of Try.underlying96 rfl in26
theorem fl96_1 : Fld Try.prog 96 1 5 := Fld.of Try.underlying96 rfl in76
theorem fl96_2 : Fld Try.prog 96 2 6 := Fld.of Try.underlying96 rfl in79
theorem fl96_3 : Fld Try.prog 96 3 7 := Fld.of Try.underlying96 rfl in87
theorem bu96 : Bu Try.prog 96 [(0, 5), (5, 1), (6, 1), (7, 1)] [.v (.slice none 0 0), .v (.int .i64 0), .v (.int .i64 0), .v (.slice none 0 0), .v (.slice none 0 0), .v (.slice none 0 0), .v (.slice none 0 0), .v (.slice none 0 0)] := Bu.of Try.underlying96 in96 (by kernel_rfl) rfl
theorem fl115_0 : Fld Try.prog 115 0 0 := Fld.of Try.underlying115 rfl in26
theorem fl115_1 : Fld Try.prog 115 1 5 := Fld.of Try.underlying115 rfl in43
theorem bu115 : Bu Try.prog 115 [(0, 5), (5, 1)] [.v (.slice none 0 0), .v (.int .i64 0), .v (.int .i64 0), .v (.slice none 0 0), .v (.slice none 0 0), .v (.slice none 0 0)] := Bu.of Try.underlying115 in115 (by kernel_rfl) rfl
theorem fl127_0 : Fld Try.prog 127 0 0 := Fld.of Try.underlying127 rfl in115
theorem fl127_1 : Fld Try.prog 127 1 6 := Fld.of Try.underlying127 rfl in76
theorem fl127_2 : Fld Try.prog 127 2 7 := Fld.of Try.underlying127 rfl in125
theorem bu127 : Bu Try.prog 127 [(0, 6), (6, 1), (7, 1)] [.v (.slice none 0 0), .v (.int .i64 0), .v (.int .i64 0), .v (.slice none 0 0), .v (.slice none 0 0), .v (.slice none 0 0), .v (.slice none 0 0), .v (.map none)] := Bu.of Try.underlying127 in127 (by kernel_rfl) rfl
theorem fl148_0 : Fld Try.prog 148 0 0 := Fld.of Try.underlying148 rfl in26
theorem fl148_1 : Fld Try.prog 148 1 5 := Fld.of Try.underlying148 rfl in43
theorem bu148 : Bu Try.prog 148 [(0, 5), (5, 1)] [.v (.slice none 0 0), .v (.int .i64 0), .v (.int .i64 0), .v (.slice none 0 0), .v (.slice none 0 0), .v (.slice none 0 0)] := Bu.of Try.underlying148 in148 (by kernel_rfl) rfl
end Go.Proofs.Ytlfpkjlaajfjnaa
