/- Loads and stores of the shadow, and their run in the model. -/
import Derived.Test.YtlfpkjlaajfjnaaSh1
set_option linter.unusedVariables false
set_option linter.unusedSimpArgs false
namespace Go.Sh
open Go.RowKit

structure Ty (P:Program) (t:TypeId) (sz:Nat) (agg:Bool):Prop where
 under:∃d,P.underlying t=some d∧(match d with | .struct _ | .array _ _=>true | _=>false)=agg
 size:(P.info? t).map (·.size)=some sz

theorem Ty.run_isAgg {P:Program} {t:TypeId} {sz:Nat} {agg:Bool} (h:Ty P t sz agg) (w:World):(isAgg t).run P w = .ok agg w:=by
 obtain⟨d,hu,hd⟩:=h.under
 unfold isAgg
 rw[Sem.run_bind,run_underlying hu w]
 cases d <;> simp_all
theorem Ty.run_sizeOf {P:Program} {t:TypeId} {sz:Nat} {agg:Bool} (h:Ty P t sz agg) (w:World):(sizeOf t).run P w = .ok sz w:=by
 have hs:=h.size
 cases hq:P.info? t with
 | none=>simp [hq] at hs
 | some i =>
  have:i.size=sz:=by simpa [hq] using hs
  simp [sizeOf,typeInfo,hq,this]

def ldF (agg:Bool) (sz:Nat) (cs:List SV) (off:Nat):Option SV :=
 match agg with
 | true=>if off+sz≤cs.length then some (.agg ((cs.drop off).take sz)) else none
 | false=>cs[off]?

theorem add_none (g o j:Nat):(⟨g,o,none⟩:Addr).add j=⟨g,o+j,none⟩:=by unfold Addr.add;split <;> simp_all

theorem run_loadAt {P:Program} {w:World} {A:Nat→Prop} {m:Mp} {t:TypeId} {sz:Nat} {agg:Bool} (hT:Ty P t sz agg) {g o off:Nat} {cs:List SV} {r:SV}
  (hc:∀(j:Nat) (y:SV),cs[j]?=some y→∃c,w.cell? ⟨g,o+j,none⟩=some c∧OneR w A m y c) (h:ldF agg sz cs off=some r) :
  ∃v,(Instr.loadAt t (.pointer (some ⟨g,o+off,none⟩))).run P w = .ok v w∧VR w A m r v:=by
 unfold Instr.loadAt Instr.sureAddr loadVar
 cases agg with
 | false =>
  obtain⟨c,h1,h2⟩:=hc off r h
  refine⟨c,?_,.one h2⟩
  simp [hT.run_isAgg,h1]
 | true =>
  simp only[ldF] at h
  split at h
  ·rename_i hle
   simp only[Option.some.injEq] at h
   subst h
   have hex:∀j,j < sz→∃c,w.cell? ⟨g,o+(off+j),none⟩=some c∧OneR w A m ((cs[off+j]?).getD .junk) c:=by
    intro j hj
    have hlt:off+j < cs.length:=by omega
    obtain⟨c,h1,h2⟩:=hc (off+j) cs[off+j] (by simp [hlt])
    exact⟨c,h1,by simpa [hlt] using h2⟩
   obtain⟨f,hf⟩:∃f:Nat→Value,∀j,j < sz→w.cell? ⟨g,o+(off+j),none⟩=some (f j)∧OneR w A m ((cs[off+j]?).getD .junk) (f j):=by
    refine⟨fun j=>if h:j < sz then Classical.choose (hex j h) else undef,fun j hj=>?_⟩
    simp only[hj,dif_pos]
    exact Classical.choose_spec (hex j hj)
   have hl:=run_loadCells (P:=P) w ⟨g,o+off,none⟩ sz f (fun j hj=>by rw[add_none,Nat.add_assoc];exact(hf j hj).1)
   refine⟨.agg ((List.range sz).map f).toArray,?_,?_⟩
   ·simp [hT.run_isAgg,hT.run_sizeOf,hl]
   ·refine .agg (by simp;omega) ?_
    intro j y hy
    rw[List.getElem?_take] at hy
    split at hy
    ·rename_i hj
     rw[List.getElem?_drop] at hy
     have:=(hf j hj).2
     rw[hy] at this
     simpa [hj] using this
    ·cases hy
  ·cases h

def spl:Array Value→Nat→List Value→Array Value
 | C,_,[]=>C
 | C,o,v::vs=>spl (C.setIfInBounds o v) (o+1) vs

theorem spl_size:∀(vs:List Value) (C:Array Value) (o:Nat),(spl C o vs).size=C.size
 | [],_,_=>rfl
 | v::vs,C,o=>by rw[spl,spl_size vs];simp

theorem spl_get:∀(vs:List Value) (C:Array Value) (o k:Nat),o+vs.length≤C.size →
  (spl C o vs).getD k undef=if o≤k∧k < o+vs.length then vs.getD (k-o) undef else C.getD k undef
 | [],C,o,k,_=>by
  rw[if_neg (by simp)];rfl
 | v::vs,C,o,k,h=>by
  simp only[List.length_cons] at h
  rw[spl,spl_get vs _ _ _ (by simp only[Array.size_setIfInBounds];omega)]
  simp only[List.length_cons]
  by_cases h1:o+1≤k∧k < o+1+vs.length
  ·rw[if_pos h1,if_pos (by omega)]
   obtain⟨j,rfl⟩:∃j,k=o+1+j:=⟨k-(o+1),by omega⟩
   rw[show o+1+j-o=j+1 by omega,show o+1+j-(o+1)=j by omega]
   simp
  ·rw[if_neg h1,getD_set _ _ _ _ (by omega)]
   by_cases h2:k=o
   ·subst h2
    simp
   ·rw[if_neg h2,if_neg (by omega)]

theorem updRow_updRow (w:World) (g:Nat) (o o':Obj):updRow (updRow w g o) g o'=updRow w g o':=by
 simp [updRow]

theorem setCell_updRow (w:World) (g o:Nat) (C:Array Value) (e:TypeId) (fr:Nat×Nat) (v:Value) (h:w.heap[g]?=some (.cells C e fr)) :
  w.setCell ⟨g,o,none⟩ v=updRow w g (.cells (C.setIfInBounds o v) e fr):=by
 unfold World.setCell updRow
 congr 1
 apply Array.ext_getElem?
 intro k
 simp only[Array.getElem?_modify,Array.getElem?_setIfInBounds]
 by_cases hk:g=k
 ·subst hk
  have hlt:g < w.heap.size:=by
   rcases Nat.lt_or_ge g w.heap.size with h' | h'
   ·exact h'
   ·simp [Array.getElem?_eq_none h'] at h
  rw[if_pos rfl,if_pos rfl,if_pos hlt,h]
  simp
 ·simp [hk]

theorem run_storeCells {P:Program} : ∀(vs:List Value) (w:World) (g o i:Nat) (C:Array Value) (e:TypeId),w.heap[g]?=some (.cells C e (0,0))→o+i+vs.length≤C.size→(∀v,v ∈ vs→one v=true) →
  ∃w',(storeCells ⟨g,o,none⟩ vs i).run P w = .ok () w'∧(vs=[]∧w'=w∨w'=updRow w g (.cells (spl C (o+i) vs) e (0,0)))
 | [],w,g,o,i,C,e,_,_,_=>⟨w,by simp [storeCells],.inl ⟨rfl,rfl⟩⟩
 | v::vs,w,g,o,i,C,e,hg,hl,hone=>by
  simp only[List.length_cons] at hl
  have hcell:w.cell? ⟨g,o+i,none⟩=some (C[o+i]'(by omega)):=by
   rw[cell_of_row w g (o+i) C e (0,0) hg];simp [show o+i < C.size by omega]
  have hfr:=frozen_of_row w g (o+i) C e hg
  have hv:v.oneCell'=true:=by have:=hone v List.mem_cons_self;cases v <;> simp_all [one,Value.oneCell']
  have hst:(store ((⟨g,o,none⟩:Addr).add i) v).run P w = .ok () (updRow w g (.cells (C.setIfInBounds (o+i) v) e (0,0))):=by
   rw[← setCell_updRow w g (o+i) C e (0,0) v hg,add_none,run_store P w ⟨g,o+i,none⟩ v .plain hv,hcell]
   simp [hfr]
  obtain⟨w',h1,h2⟩:=run_storeCells (P:=P) vs (updRow w g (.cells (C.setIfInBounds (o+i) v) e (0,0))) g o (i+1) (C.setIfInBounds (o+i) v) e (updRow_self w hg) (by simp;omega)
   (fun u hu=>hone u (List.mem_cons_of_mem _ hu))
  refine⟨w',?_,.inr ?_⟩
  ·simp only[storeCells,Sem.run_bind]
   rw[hst]
   exact h1
  ·rcases h2 with⟨rfl,rfl⟩ | rfl
   ·rfl
   ·rw[updRow_updRow];rfl

theorem updRow_same (w:World) (g:Nat) (o:Obj) (h:w.heap[g]?=some o):updRow w g o=w:=by
 unfold updRow
 have:w.heap.setIfInBounds g o=w.heap:=by
  apply Array.ext_getElem?
  intro k
  simp only[Array.getElem?_setIfInBounds]
  by_cases hk:g=k
  ·subst hk
   have hlt:g < w.heap.size:=by
    rcases Nat.lt_or_ge g w.heap.size with h' | h'
    ·exact h'
    ·simp [Array.getElem?_eq_none h'] at h
   rw[if_pos rfl,if_pos hlt,h]
  ·rw[if_neg hk]
 rw[this]

theorem run_storeCells' {P:Program} (vs:List Value) (w:World) (g o:Nat) (C:Array Value) (e:TypeId) (hg:w.heap[g]?=some (.cells C e (0,0))) (hl:o+vs.length≤C.size) (hone:∀v,v ∈ vs→one v=true) :
  (storeCells ⟨g,o,none⟩ vs).run P w = .ok () (updRow w g (.cells (spl C o vs) e (0,0))):=by
 obtain⟨w',h1,h2⟩:=run_storeCells (P:=P) vs w g o 0 C e hg (by omega) hone
 rw[h1]
 rcases h2 with⟨rfl,rfl⟩ | rfl
 ·rw[spl,updRow_same _ _ _ hg]
 ·rfl

theorem run_storeAt {P:Program} {w:World} {t:TypeId} {sz:Nat} {agg:Bool} (hT:Ty P t sz agg) {g o:Nat} {C:Array Value} {e:TypeId} {v:Value}
  (hg:w.heap[g]?=some (.cells C e (0,0))) (hs:v.cells.size=sz) (hl:o+sz≤C.size) (hone:∀u,u ∈ v.cells.toList→one u=true) :
  (Instr.storeAt t (.pointer (some ⟨g,o,none⟩)) v).run P w = .ok () (updRow w g (.cells (spl C o v.cells.toList) e (0,0))):=by
 unfold Instr.storeAt Instr.sureAddr storeVar
 have:=run_storeCells' (P:=P) v.cells.toList w g o C e hg (by simp;omega) hone
 simp [hT.run_sizeOf,hs,this]

def splL:List SV→Nat→List SV→List SV
 | cs,_,[]=>cs
 | cs,o,z::zs=>splL (cs.set o z) (o+1) zs

theorem splL_length:∀(zs cs:List SV) (o:Nat),(splL cs o zs).length=cs.length
 | [],_,_=>rfl
 | z::zs,cs,o=>by rw[splL,splL_length zs];simp

theorem splL_get:∀(zs cs:List SV) (o k:Nat),o+zs.length≤cs.length→(splL cs o zs)[k]?=if o≤k∧k < o+zs.length then zs[k-o]? else cs[k]?
 | [],cs,o,k,_=>by rw[if_neg (by simp)];rfl
 | z::zs,cs,o,k,h=>by
  simp only[List.length_cons] at h
  rw[splL,splL_get zs _ _ _ (by simp;omega)]
  simp only[List.length_cons]
  by_cases h1:o+1≤k∧k < o+1+zs.length
  ·rw[if_pos h1,if_pos (by omega)]
   obtain⟨j,rfl⟩:∃j,k=o+1+j:=⟨k-(o+1),by omega⟩
   rw[show o+1+j-o=j+1 by omega,show o+1+j-(o+1)=j by omega]
   simp
  ·rw[if_neg h1]
   by_cases h2:k=o
   ·subst h2
    rw[if_pos (by omega),List.getElem?_set_self (by omega)]
    simp
   ·rw[if_neg (by omega),List.getElem?_set_ne (fun e=>h2 e.symm)]

end Go.Sh
