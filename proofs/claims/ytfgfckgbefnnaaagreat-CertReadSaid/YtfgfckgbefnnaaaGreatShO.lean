/- Strings: what printed walks need of them. -/
import Derived.Test.YtfgfckgbefnnaaaGreatShN
import Derived.Laws.Slices
set_option linter.unusedVariables false
set_option linter.unusedSimpArgs false
namespace Go.Sh
open Go.RowKit
section
variable {P:Program} {E:Operand→SV} {hp:Nat→Option Blk} {id:Nat} {t e tx dt sl:TypeId} {x lo ix:Operand} {k:IntKind} {i:Int} {s:ByteArray} {f:Int→SV} {m:List Int} {d:Bool} {u:SV}
theorem Op1.toStrm (hs:P.underlying sl=some (.slice e)) (he:P.underlying e=some (.int .u8)) (hd:P.underlying dt=some .string) (hx:E x=u) (h:SrcS P hp 1 d sl u (m.map f)) (hf:∀n,f n = .v (.int .u8 n)):Op1 P E hp id (.convert sl dt x) (.v (.string (strOf m))) []:=by
 have:m.map f=m.map b8:=List.map_congr_left fun n _=>hf n
 rw[this] at h
 exact .toStr hs he hd hx h
end
theorem baeq (a b:ByteArray):(a == b)=true ↔ a=b:=by
 rw[beq_bl,decide_eq_true_eq]
 exact⟨bl_inj,fun h=>by rw[h]⟩
end Go.Sh
