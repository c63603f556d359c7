/- What may come in, as plain bounds. -/
import Derived.Test.YtlfpkjlaajfjnaaShO
namespace Go.Sh
open Go.RowKit
theorem lit_i64 {n:Int} (h:(Lit.int .i64 n).wf=true) : -9223372036854775808≤n∧n≤9223372036854775807:=by
 simp only[Lit.wf,Bool.and_eq_true,decide_eq_true_eq] at h
 exact h
end Go.Sh
