/- Facts of the types of the program of this seat. -/
import Derived.Test.YtlfpkjlaajfjnaaProg
import Derived.KernelRfl
import Derived.Test.YtlfpkjlaajfjnaaShU
set_option linter.unusedVariables false
namespace Go.Proofs.Ytlfpkjlaajfjnaa
open Go Go.Sh
theorem mixed:Try.prog.follows .mixedOrders=true:=by kernel_rfl
theorem in3:InfoIs Try.prog 3 (.int .i64 0) 1 8:=by unfold InfoIs;kernel_rfl
theorem ty3:Ty Try.prog 3 1 false:=Ty.of rfl Try.underlying3 in3
theorem in22:InfoIs Try.prog 22 (.slice none 0 0) 1 24:=by unfold InfoIs;kernel_rfl
theorem ty22:Ty Try.prog 22 1 false:=Ty.of rfl Try.underlying22 in22
theorem in23:InfoIs Try.prog 23 (.slice none 0 0) 1 24:=by unfold InfoIs;kernel_rfl
theorem ty23:Ty Try.prog 23 1 false:=Ty.of rfl Try.underlying23 in23
theorem in24:InfoIs Try.prog 24 (.slice none 0 0) 1 24:=by unfold InfoIs;kernel_rfl
theorem ty24:Ty Try.prog 24 1 false:=Ty.of rfl Try.underlying24 in24
theorem in26:InfoIs Try.prog 26 (.agg #[.slice none 0 0,.int .i64 0,.int .i64 0,.slice none 0 0,.slice none 0 0]) 5 88:=by unfold InfoIs;kernel_rfl
theorem ty26:Ty Try.prog 26 5 true:=Ty.of rfl Try.underlying26 in26
theorem in28:InfoIs Try.prog 28 (.agg #[.int .i64 0,.int .i64 0,.int .i64 0,.int .i64 0]) 4 32:=by unfold InfoIs;kernel_rfl
theorem ty28:Ty Try.prog 28 4 true:=Ty.of rfl Try.underlying28 in28
theorem in60:InfoIs Try.prog 60 (.agg #[.int .i64 0,.int .i64 0,.int .i64 0]) 3 24:=by unfold InfoIs;kernel_rfl
theorem ty60:Ty Try.prog 60 3 true:=Ty.of rfl Try.underlying60 in60
theorem sl22:Sl Try.prog 22 28 4:=Sl.of Try.underlying22 in28 (by decide) rfl (by decide)
theorem sl23:Sl Try.prog 23 3 1:=Sl.of Try.underlying23 in3 (by decide) rfl (by decide)
theorem sl24:Sl Try.prog 24 60 3:=Sl.of Try.underlying24 in60 (by decide) rfl (by decide)
theorem fl26_0:Fld Try.prog 26 0 0:=Fld.of Try.underlying26 rfl in22
theorem fl26_1:Fld Try.prog 26 1 1:=Fld.of Try.underlying26 rfl in3
theorem fl26_2:Fld Try.prog 26 2 2:=Fld.of Try.underlying26 rfl in3
theorem fl26_3:Fld Try.prog 26 3 3:=Fld.of Try.underlying26 rfl in23
theorem fl26_4:Fld Try.prog 26 4 4:=Fld.of Try.underlying26 rfl in24
theorem bu26:Bu Try.prog 26 [(0,1),(1,1),(2,1),(3,1),(4,1)] [.v (.slice none 0 0),.v (.int .i64 0),.v (.int .i64 0),.v (.slice none 0 0),.v (.slice none 0 0)]:=Bu.of Try.underlying26 in26 (by kernel_rfl) rfl
theorem fl28_0:Fld Try.prog 28 0 0:=Fld.of Try.underlying28 rfl in3
theorem fl28_1:Fld Try.prog 28 1 1:=Fld.of Try.underlying28 rfl in3
theorem fl28_2:Fld Try.prog 28 2 2:=Fld.of Try.underlying28 rfl in3
theorem fl28_3:Fld Try.prog 28 3 3:=Fld.of Try.underlying28 rfl in3
theorem bu28:Bu Try.prog 28 [(0,1),(1,1),(2,1),(3,1)] [.v (.int .i64 0),.v (.int .i64 0),.v (.int .i64 0),.v (.int .i64 0)]:=Bu.of Try.underlying28 in28 (by kernel_rfl) rfl
theorem sl35:Sl Try.prog 35 23 1:=Sl.of Try.underlying35 in23 (by decide) rfl (by decide)
theorem fl60_0:Fld Try.prog 60 0 0:=Fld.of Try.underlying60 rfl in3
theorem fl60_1:Fld Try.prog 60 1 1:=Fld.of Try.underlying60 rfl in3
theorem fl60_2:Fld Try.prog 60 2 2:=Fld.of Try.underlying60 rfl in3
theorem bu60:Bu Try.prog 60 [(0,1),(1,1),(2,1)] [.v (.int .i64 0),.v (.int .i64 0),.v (.int .i64 0)]:=Bu.of Try.underlying60 in60 (by kernel_rfl) rfl
end Go.Proofs.Ytlfpkjlaajfjnaa
