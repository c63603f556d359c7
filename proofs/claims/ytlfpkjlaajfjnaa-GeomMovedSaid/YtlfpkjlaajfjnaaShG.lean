/- Loops: a state is brought back to its first form; short forms for results. -/
import Derived.Test.YtlfpkjlaajfjnaaShF
import Derived.Laws.StructEq
set_option linter.unusedVariables false
set_option linter.unusedSimpArgs false
namespace Go.Sh
open Go.RowKit

def Sub (cx:Cx) (st st':St):Prop:=∀a w,Rel cx st a w→Rel cx st' a w

theorem id1_lt {N b:Nat} (h:Nat.blt b N=true):b < N:=Nat.le_of_ble_eq_true h
theorem T.loopS {P:Program} {cx:Cx} {c:Code} {Q:Exit→St→Prop} {st:St} (I:Nat→St→Prop) (n:Nat) (h0:∃s,I n s∧Sub cx st s) (round:∀n s,I n s→T P cx c (Th (fun st'=>∃n',n' < n∧∃s',I n' s'∧Sub cx st' s') Q) s):T P cx (.loop c) Q st:=by
 refine T.loop (fun n st=>∃s,I n s∧Sub cx st s) n h0 ?_
 rintro n st ⟨s,hI,hs⟩
 exact T.weaken hs (round n s hI)

theorem T.sub {P:Program} {cx:Cx} {c:Code} {Q:Exit→St→Prop} {st st':St} (hs:Sub cx st st') (h:T P cx c Q st'):T P cx c Q st:=T.weaken hs h

theorem w64 {x:Int} (h1 : -9223372036854775808≤x) (h2:x≤9223372036854775807):IntKind.i64.wrap x=x:=by rw[IntKind.wrap_i64];omega

theorem RetOk.v {P:Program} {al:Bool} {rs:Array ResultVar} {u r:Value} {st:St} {t:Tmp} (hrs:rs = #[.tmp t]) (hl:look t st.env=some (.v u)) (hu:u=r):RetOk P rs al (.v r) st:=by
 subst hrs hu
 exact⟨⟨[.v u],[],⟨hl,trivial⟩,rfl,rfl,fun i j b h=>by simp at h,fun k x h=>by simp [impT,impC,imp1] at h⟩⟩

theorem RetOk.frs {P:Program} {al:Bool} {rs:Array ResultVar} {st:St} {t:Tmp} {b n sz:Nat} {xs ys:List SV} (hrs:rs = #[.tmp t]) (hl:look t st.env=some (.own b 0 n)) (hb:hlook b st.heap=some (.arr false sz xs)) (hn:n=xs.length) (hx:xs=ys):RetOk P rs al (.frs sz ys) st:=by
 subst hrs hn hx
 refine⟨⟨[.own b 0 xs.length],[some b],⟨hl,trivial⟩,rfl,rfl,fun i j c hi hj=>?_,fun k x h=>?_⟩⟩
 ·have:=lt_of_get hi;have:=lt_of_get hj;simp at *;omega
 ·have:=lt_of_get h
  have hk:k=0:=by simp [impT,impC,imp1] at this;exact this
  subst hk
  simp [impT,impC,imp1] at h
  subst h
  exact hb

theorem RetOk.nil {P:Program} {al:Bool} {rs:Array ResultVar} {st:St} {t:Tmp} {sz:Nat} {ys:List SV} (hrs:rs = #[.tmp t]) (hl:look t st.env=some (.v (.slice none 0 0))) (hs:0 < sz) (hx:ys=[]):RetOk P rs al (.frs sz ys) st:=by
 subst hrs hx
 refine⟨⟨[.v (.slice none 0 0)],[none],⟨hl,trivial⟩,⟨rfl,rfl,rfl⟩,rfl,fun i j c hi hj=>?_,fun k x h=>?_⟩⟩
 ·have:=lt_of_get hi
  have hi0:i=0:=by simpa using this
  subst hi0
  simp at hi
 ·have:=lt_of_get h
  have hk:k=0:=by simp [impT,impC,imp1] at this;exact this
  subst hk
  simp [impT,impC,imp1] at h
  subst h
  exact⟨sz,rfl,hs⟩

/-! ### A type's facts out of its row -/
abbrev InfoIs (P:Program) (t:TypeId) (z:Value) (sz by_:Nat):Prop:=(P.info? t).map (fun i=>(i.zero,i.size,i.bytes))=some (some z,sz,by_)
theorem InfoIs.get {P:Program} {t:TypeId} {z:Value} {sz by_:Nat} (h:InfoIs P t z sz by_):∃i,P.info? t=some i∧i.zero=some z∧i.size=sz∧i.bytes=by_:=by
 unfold InfoIs at h
 cases hq:P.info? t with
 | none=>simp [hq] at h
 | some i =>
  simp only[hq,Option.map_some,Option.some.injEq,Prod.mk.injEq] at h
  exact⟨i,rfl,h.1,h.2.1,h.2.2⟩
theorem InfoIs.zero {P:Program} {t:TypeId} {z:Value} {sz by_:Nat} (h:InfoIs P t z sz by_):(P.info? t).bind (fun i=>i.zero)=some z:=by
 obtain⟨i,h1,h2,_⟩:=h.get
 simp [h1,h2]
theorem InfoIs.sz {P:Program} {t:TypeId} {z:Value} {sz by_:Nat} (h:InfoIs P t z sz by_):(P.info? t).map (·.size)=some sz:=by
 obtain⟨i,h1,_,h3,_⟩:=h.get
 simp [h1,h3]
theorem Ty.of {P:Program} {t:TypeId} {d:TypeDesc} {z:Value} {sz by_:Nat} {agg:Bool} (hd:(match d with | .struct _ | .array _ _=>true | _=>false)=agg) (hu:P.underlying t=some d) (h:InfoIs P t z sz by_):Ty P t sz agg:=⟨⟨d,hu,hd⟩,h.sz⟩
theorem Sl.of {P:Program} {t e:TypeId} {z:Value} {sz by_:Nat} (hu:P.underlying t=some (.slice e)) (h:InfoIs P e z sz by_) (h1:0 < sz) (h2:z.cells.size=sz) (h4:by_≤1024):Sl P t e sz:=by
 obtain⟨i,e1,e2,e3,e4⟩:=h.get
 exact⟨hu,h.sz,h1,⟨z,by simp [e1,e2],h2⟩,⟨by_,by simp [e1,e4],h4⟩⟩
theorem Fld.of {P:Program} {s ft:TypeId} {fs:Array Field} {f k by_:Nat} {z:Value} {n:Nat} (hu:P.underlying s=some (.struct fs)) (hf:(fs[f]?).map (fun d=>(d.offset,d.type))=some (k,ft)) (h:InfoIs P ft z (n+1) by_):Fld P s f k:=by
 cases hq:fs[f]? with
 | none=>simp [hq] at hf
 | some d =>
  simp only[hq,Option.map_some,Option.some.injEq,Prod.mk.injEq] at hf
  exact⟨fs,d,hu,hq,hf.1,n,by rw[hf.2];exact h.sz⟩
theorem Ar.of {P:Program} {t e:TypeId} {n sz by_:Nat} {z:Value} (hu:P.underlying t=some (.array n e)) (h:InfoIs P e z sz by_):Ar P t n sz:=⟨e,hu,h.sz⟩

end Go.Sh

namespace Go.Sh
open Go.RowKit
structure Bu (P:Program) (t:TypeId) (places:List (Nat×Nat)) (zs:List SV):Prop where
 out:∃fs z,P.underlying t=some (.struct fs)∧fs.toList.mapM (fun f=>(P.info? f.type).map fun i=>(f.offset,i.size))=some places∧(P.info? t).bind (fun i=>i.zero)=some z∧ofConst z = .agg zs
theorem Bu.of {P:Program} {t:TypeId} {fs:Array Field} {places:List (Nat×Nat)} {z:Value} {sz by_:Nat} {zs:List SV} (hu:P.underlying t=some (.struct fs)) (h:InfoIs P t z sz by_) (hp:fs.toList.mapM (fun f=>(P.info? f.type).map fun i=>(f.offset,i.size))=some places) (hz:ofConst z = .agg zs):Bu P t places zs :=
 ⟨fs,z,hu,hp,h.zero,hz⟩
theorem Op1.bu {P:Program} {E:Operand→SV} {hp:Nat→Option Blk} {id:Nat} {t:TypeId} {parts:Array (Nat×Operand)} {zs r:List SV} {places:List (Nat×Nat)} (h:Bu P t places zs)
  (hf:fillS (places.toArray[·]?) zs (parts.toList.map fun p=>(p.1,E p.2))=some r):Op1 P E hp id (.build t parts) (.agg r) []:=by
 obtain⟨fs,z,h1,h2,h3,h4⟩:=h.out
 exact .build h1 h2 h3 h4 hf

end Go.Sh

/-! ### '==' of structs -/
namespace Go.Sh
section
variable {P:Program} {d:Nat} {xs ys:Array Value} {f:Field} {fs:List Field} {a b:Value} {r s:Bool} {w:World}
end
end Go.Sh
