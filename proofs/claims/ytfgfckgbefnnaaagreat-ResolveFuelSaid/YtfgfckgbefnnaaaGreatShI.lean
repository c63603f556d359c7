/- More ends of functions; strings. -/
import Derived.Test.YtfgfckgbefnnaaaGreatShH
import Derived.Laws.StructEq
import Derived.Laws.Concat
import Derived.MapKept
set_option linter.unusedVariables false
set_option linter.unusedSimpArgs false
namespace Go.Sh
open Go.RowKit

/-! ### Strings -/
theorem eqStr {P:Program} {t:TypeId} {x y:Operand} {a b:ByteArray} (w:World):(binS .eql t x y (.string a) (.string b)).run P w = .ok (.bool (a == b)) w:=by
 rw[beq_toListBytes]
 simp [binS,eqGuard,binOp,Op.stringOp]
def bl (s:ByteArray):List Nat:=s.data.toList.map UInt8.toNat
theorem bl_inj {a b:ByteArray} (h:bl a=bl b):a=b:=by
 obtain⟨⟨a⟩⟩:=a
 obtain⟨⟨b⟩⟩:=b
 unfold bl at h
 simp only at h
 congr 2
 have:∀(x y:List UInt8),x.map UInt8.toNat=y.map UInt8.toNat→x=y:=by
  intro x
  induction x with
  | nil=>intro y hy;cases y with
   | nil=>rfl
   | cons=>simp at hy
  | cons a r ih=>intro y hy;cases y with
   | nil=>simp at hy
   | cons b s =>
    simp only[List.map_cons,List.cons.injEq] at hy
    rw[ih s hy.2,UInt8.toNat_inj.1 hy.1]
 exact this _ _ h
theorem beq_bl (a b:ByteArray):(a == b)=decide (bl a=bl b):=by
 rw[Bool.eq_iff_iff,MapKept.bytes_beq,decide_eq_true_iff]
 exact⟨fun h=>by rw[h],bl_inj⟩
end Go.Sh
namespace Go.Sh
end Go.Sh
namespace Go.Sh
open Go.RowKit
section
variable {P:Program} {t:TypeId} {x y:Operand} {k:IntKind} {a b r:Int} (w:World)
end
theorem wu64 {x:Int} (h1:0≤x) (h2:x≤18446744073709551615):IntKind.u64.wrap x=x:=by rw[IntKind.wrap_u64];omega
end Go.Sh
namespace Go.Sh
end Go.Sh
namespace Go.Sh
end Go.Sh
namespace Go.Sh
open Go.RowKit
end Go.Sh
