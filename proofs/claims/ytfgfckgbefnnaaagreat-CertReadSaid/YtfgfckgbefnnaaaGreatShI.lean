/- More ends of functions; strings. -/
import Derived.Test.YtfgfckgbefnnaaaGreatShH
import Derived.Laws.StructEq
import Derived.Laws.Concat
import Derived.MapKept
set_option linter.unusedVariables false
set_option linter.unusedSimpArgs false
namespace Go.Sh
open Go.RowKit

/-! ### Strings -/
theorem eqStr {P:Program} {t:TypeId} {x y:Operand} {a b:ByteArray} (w:World):(binS .eql t x y (.string a) (.string b)).run P w = .ok (.bool (a == b)) w:=by
 rw[beq_toListBytes]
 simp [binS,eqGuard,binOp,Op.stringOp]
def bl (s:ByteArray):List Nat:=s.data.toList.map UInt8.toNat
theorem strOf_push:∀(ns:List Int) (r:ByteArray),(ns.foldl (fun r n=>r.push (UInt8.ofNat n.toNat)) r).data.toList=r.data.toList++ns.map (fun n=>UInt8.ofNat n.toNat)
 | [],r=>by simp
 | n::ns,r=>by
  rw[List.foldl_cons,strOf_push ns]
  simp [ByteArray.push]
theorem bl_strOf {ns:List Int} (h:∀n,n ∈ ns→0≤n∧n < 256):bl (strOf ns)=ns.map Int.toNat:=by
 unfold bl strOf
 rw[strOf_push]
 rw[show ByteArray.empty.data.toList=[] from rfl,List.nil_append,List.map_map]
 refine List.map_congr_left fun n hn=>?_
 have:=h n hn
 simp only[Function.comp,UInt8.toNat_ofNat']
 omega
theorem bl_inj {a b:ByteArray} (h:bl a=bl b):a=b:=by
 obtain⟨⟨a⟩⟩:=a
 obtain⟨⟨b⟩⟩:=b
 unfold bl at h
 simp only at h
 congr 2
 have:∀(x y:List UInt8),x.map UInt8.toNat=y.map UInt8.toNat→x=y:=by
  intro x
  induction x with
  | nil=>intro y hy;cases y with
   | nil=>rfl
   | cons=>simp at hy
  | cons a r ih=>intro y hy;cases y with
   | nil=>simp at hy
   | cons b s =>
    simp only[List.map_cons,List.cons.injEq] at hy
    rw[ih s hy.2,UInt8.toNat_inj.1 hy.1]
 exact this _ _ h
theorem beq_bl (a b:ByteArray):(a == b)=decide (bl a=bl b):=by
 rw[Bool.eq_iff_iff,MapKept.bytes_beq,decide_eq_true_iff]
 exact⟨fun h=>by rw[h],bl_inj⟩
end Go.Sh
namespace Go.Sh
end Go.Sh
namespace Go.Sh
open Go.RowKit
section
variable {P:Program} {t:TypeId} {x y:Operand} {k:IntKind} {a b r:Int} (w:World)
theorem b_or' (h:k.wrap ((BitVec.ofInt k.bits a ||| BitVec.ofInt k.bits b).toNat:Int)=r):(binS .or t x y (.int k a) (.int k b)).run P w = .ok (.int k r) w:=by
 rw[← h];simp [binS,eqGuard,binOp,Op.intBits]
theorem b_and' (h:k.wrap ((BitVec.ofInt k.bits a &&& BitVec.ofInt k.bits b).toNat:Int)=r):(binS .and t x y (.int k a) (.int k b)).run P w = .ok (.int k r) w:=by
 rw[← h];simp [binS,eqGuard,binOp,Op.intBits]
end
theorem ofInt_nat {n a:Nat} (h:a < 2 ^ n):(BitVec.ofInt n (a:Int)).toNat=a:=by
 rw[BitVec.ofInt_natCast,BitVec.toNat_ofNat,Nat.mod_eq_of_lt h]
theorem or_nat {n a b:Nat} (ha:a < 2 ^ n) (hb:b < 2 ^ n):(BitVec.ofInt n (a:Int) ||| BitVec.ofInt n (b:Int)).toNat=a ||| b:=by
 rw[BitVec.toNat_or,ofInt_nat ha,ofInt_nat hb]
theorem and_nat {n a b:Nat} (ha:a < 2 ^ n) (hb:b < 2 ^ n):(BitVec.ofInt n (a:Int) &&& BitVec.ofInt n (b:Int)).toNat=a &&& b:=by
 rw[BitVec.toNat_and,ofInt_nat ha,ofInt_nat hb]
theorem wu8 {x:Int} (h1:0≤x) (h2:x≤255):IntKind.u8.wrap x=x:=by rw[IntKind.wrap_u8];omega
theorem wu64 {x:Int} (h1:0≤x) (h2:x≤18446744073709551615):IntKind.u64.wrap x=x:=by rw[IntKind.wrap_u64];omega
end Go.Sh
namespace Go.Sh
end Go.Sh
namespace Go.Sh
def ra {α:Type} (N:Nat) (g:Nat → α):List α:=(List.range N).map g
theorem ra_get {α:Type} {f : α→SV} {N:Nat} {g:Nat → α} {j:Nat} (h:j < N):((ra N g).map f)[j]?=some (f (g j)):=by simp [ra,h]
theorem ra_congr {α:Type} {N:Nat} {g g':Nat → α} (h:∀q,q < N→g q=g' q):ra N g=ra N g':=by
 unfold ra
 refine List.map_congr_left fun q hq=>?_
 rw[h q (List.mem_range.1 hq)]
theorem strOf_inj {a b:List Int} (ha:∀n,n ∈ a→0≤n∧n < 256) (hb:∀n,n ∈ b→0≤n∧n < 256):(strOf a == strOf b)=decide (a=b):=by
 rw[beq_bl,bl_strOf ha,bl_strOf hb]
 rw[decide_eq_decide]
 constructor
 ·intro h
  have:∀(x y:List Int),(∀n,n ∈ x→0≤n∧n < 256)→(∀n,n ∈ y→0≤n∧n < 256)→x.map Int.toNat=y.map Int.toNat→x=y:=by
   intro x
   induction x with
   | nil=>intro y _ _ e;cases y with
    | nil=>rfl
    | cons=>simp at e
   | cons p x ih=>intro y hx hy e;cases y with
    | nil=>simp at e
    | cons q y =>
     simp only[List.map_cons,List.cons.injEq] at e
     have h1:=hx p (by simp)
     have h2:=hy q (by simp)
     rw[ih y (fun n hn=>hx n (by simp [hn])) (fun n hn=>hy n (by simp [hn])) e.2,show p=q by omega]
  exact this a b ha hb h
 ·intro h
  rw[h]
end Go.Sh
namespace Go.Sh
open Go.RowKit
end Go.Sh
