/- Appends. -/
import Derived.Test.YtlfpkjlaajfjnaaSh5
set_option linter.unusedVariables false
set_option linter.unusedSimpArgs false
namespace Go.Sh
open Go.RowKit

section
variable {P:Program} {cx:Cx} {m:Mp} {st:St} {a:Act} {w:World} {hp:Nat→Option Blk}

theorem Sl.facts {t e:TypeId} {sz:Nat} (h:Sl P t e sz):∃i z,P.info? e=some i∧i.size=sz∧i.zero=some z∧z.cells.size=sz∧True∧i.bytes≤1024:=by
 obtain⟨z,h1,h2⟩:=h.zero
 obtain⟨n,h4,h5⟩:=h.bytes
 have h6:=h.size
 cases hq:P.info? e with
 | none=>simp [hq] at h1
 | some i =>
  simp only[hq,Option.map_some,Option.some.injEq] at h1 h4 h6
  exact⟨i,z,rfl,h6,h1,h2,trivial,by omega⟩

theorem getD_app (xs ys:List Value) (Z:Array Value) (k:Nat) (h:k < xs.length+ys.length):((xs++ys).toArray++Z).getD k undef=if k < xs.length then xs.getD k undef else ys.getD (k-xs.length) undef:=by
 have h1:((xs++ys).toArray++Z).getD k undef=(xs++ys).getD k undef:=by
  simp only[Array.getD_eq_getD_getElem?,List.getD_eq_getElem?_getD]
  rw[Array.getElem?_append_left (by simpa using h)]
  simp
 rw[h1]
 simp only[List.getD_eq_getElem?_getD]
 split
 ·rename_i h2;rw[List.getElem?_append_left h2]
 ·rename_i h2;rw[List.getElem?_append_right (by omega)]

theorem cells_app {R:SV→Value→Prop} {sz:Nat} (hp:0 < sz) {xs ys:List SV} {olds news:List Value} (hlo:olds.length=xs.length * sz) (hln:news.length=ys.length * sz) (Z:Array Value)
  (hx:∀x,x ∈ xs→x.cells.length=sz) (hy:∀y,y ∈ ys→y.cells.length=sz)
  (h1:∀(i:Nat) (x:SV) (j:Nat) (z:SV),xs[i]?=some x→x.cells[j]?=some z→R z (olds.getD (i * sz+j) undef))
  (h2:∀(i:Nat) (y:SV) (j:Nat) (z:SV),ys[i]?=some y→y.cells[j]?=some z→R z (news.getD (i * sz+j) undef)) :
  ∀(i:Nat) (y:SV) (j:Nat) (z:SV),(xs++ys)[i]?=some y→y.cells[j]?=some z→R z (((olds++news).toArray++Z).getD (i * sz+j) undef):=by
 intro i y j z hi hj
 have hil:i < (xs++ys).length:=by
  rcases Nat.lt_or_ge i (xs++ys).length with h' | h'
  ·exact h'
  ·rw[List.getElem?_eq_none h'] at hi;cases hi
 have hyl:y.cells.length=sz:=by
  rcases List.mem_append.1 (List.mem_of_getElem? hi) with h | h
  ·exact hx y h
  ·exact hy y h
 have hjl:j < sz:=by
  rw[← hyl]
  rcases Nat.lt_or_ge j y.cells.length with h' | h'
  ·exact h'
  ·rw[List.getElem?_eq_none h'] at hj;cases hj
 rw[List.length_append] at hil
 have hb:i * sz+j < (xs.length+ys.length) * sz:=by
  have:i * sz+sz≤(xs.length+ys.length) * sz:=by rw[← Nat.succ_mul];exact Nat.mul_le_mul_right _ hil
  omega
 rw[getD_app _ _ _ _ (by rw[hlo,hln,← Nat.add_mul];exact hb)]
 by_cases hlt:i < xs.length
 ·have:i * sz+j < olds.length:=by
   rw[hlo]
   have:i * sz+sz≤xs.length * sz:=by rw[← Nat.succ_mul];exact Nat.mul_le_mul_right _ hlt
   omega
  rw[if_pos this]
  rw[List.getElem?_append_left hlt] at hi
  exact h1 i y j z hi hj
 ·have h3:xs.length≤i:=by omega
  have h4:xs.length * sz≤i * sz:=Nat.mul_le_mul_right _ h3
  rw[if_neg (by rw[hlo];omega)]
  rw[List.getElem?_append_right h3] at hi
  have:=h2 (i-xs.length) y j z hi hj
  rwa [show(i-xs.length) * sz+j=i * sz+j-olds.length by rw[hlo,Nat.sub_mul];omega] at this

theorem app_grow (h:RelM cx m st a w) {id:Nat} (hf:Fresh st id) {t e tx ty:TypeId} {sz:Nat} (hS:Sl P t e sz) {d:Bool} {xs ys:List SV} {base:Option Addr} {sCap:Nat} {xv:Value} {olds:List Value}
  (hlo:olds.length=xs.length * sz) (hold:(Builtin.firstCells sz xs.length (.slice base xs.length sCap)).run P w.drew = .ok olds.toArray w.drew)
  (hx:∀x,x ∈ xs→x.cells.length=sz) (h1:∀(i:Nat) (x:SV) (j:Nat) (z:SV),xs[i]?=some x→x.cells[j]?=some z→OneR w (AOf cx st.heap m) (if d then m else noMp) z (olds.getD (i * sz+j) undef))
  (hA:Adds P w (AOf cx st.heap m) (if d then m else noMp) sz tx xv ys) (hg:sCap < xs.length+ys.length) (hN:xs.length+ys.length≤4294967296) :
  ∃v w' m',(Builtin.append_ #[t,tx] ty #[.slice base xs.length sCap,xv]).run P w = .ok v w' ∧
   RelM cx m' { st with heap:=(id,some (.arr d sz (xs++ys)))::st.heap,al:=id::st.al } a w'∧VR w' (AOf cx ((id,some (.arr d sz (xs++ys)))::st.heap) m') m' (.own id 0 (xs.length+ys.length)) v ∧
   ∀y v,VR w (AOf cx st.heap m) m y v→VR w' (AOf cx ((id,some (.arr d sz (xs++ys)))::st.heap) m') m' y v:=by
 obtain⟨i,z,hi,his,hz,hzs,_,hby⟩:=hS.facts
 obtain⟨news,hsrc,hy,h2⟩:=hA
 have hln:=hsrc.newsLen
 have hby48:(xs.length+ys.length) * i.bytes≤140737488355328:=by
  have:=Nat.mul_le_mul hN hby
  omega
 have hr:=run_append_grow_src (P:=P) w t tx ty e i z hS.under hi hz base xs.length sCap olds (by rw[his];exact hold) xv ys.length news (by rw[his];exact hsrc) hg (by omega) (growslice_fits hg hby48)
 have hcap:=grownCap_ge w (xs.length+ys.length) sCap e
 generalize hc:grownCap w (xs.length+ys.length) sCap e=cap at hr hcap
 have hCs:((olds++news).toArray++Builtin.zeroCells z.cells (cap-(xs.length+ys.length))).size=cap * sz:=by
  simp only[Array.size_append,List.size_toArray,List.length_append,size_zeroCells,hzs,hlo,hln]
  rw[← Nat.add_mul,← Nat.add_mul]
  congr 1
  omega
 generalize hC:(olds++news).toArray++Builtin.zeroCells z.cells (cap-(xs.length+ys.length))=C at hr hCs
 obtain⟨m',h3,h4,h5,h6⟩:=h.drew.alloc (id:=id) (s:=sz) (x := .arr d sz (xs++ys)) hf C e (fun w' A' m' hm' hw' k1 k2=>by
  refine⟨hS.pos,.inr ⟨w.heap.size,C,e,hm',hw',?_,?_,?_⟩⟩
  ·rw[hCs,List.length_append];exact Nat.mul_le_mul_right _ hcap
  ·intro x hx'
   rcases List.mem_append.1 hx' with h | h
   ·exact hx x h
   ·exact hy x h
  ·rw[← hC]
   refine cells_app hS.pos hlo hln _ hx hy ?_ ?_
   ·intro i x j z h7 h8
    have:=(h1 i x j z h7 h8).mono (w':=w.drew) (fun _ _ _=>rfl) (fun _ h => .inl h) (fun _ _ h=>h) (fun _ _ h=>h)
    cases d
    ·exact k2 _ _ this
    ·exact k1 _ _ this
   ·intro i x j z h7 h8
    have:=(h2 i x j z h7 h8).mono (w':=w.drew) (fun _ _ _=>rfl) (fun _ h => .inl h) (fun _ _ h=>h) (fun _ _ h=>h)
    cases d
    ·exact k2 _ _ this
    ·exact k1 _ _ this)
 refine⟨_,_,m',hr,h3,.one ?_,?_⟩
 ·have:(.slice (some ⟨w.heap.size,0,none⟩) (xs.length+ys.length) cap:Value) = .slice (some ⟨w.heap.size,0 * sz,none⟩) (xs.length+ys.length) cap:=by rw[Nat.zero_mul]
  rw[this]
  exact .own h4 h5 (by rw[hCs,Nat.zero_add];exact Nat.le_refl _) hcap
 ·intro y v hv
  exact h6 y v (hv.mono (w':=w.drew) (fun _ _ _=>rfl) (fun _ h => .inl h) (fun _ _ h=>h) (fun _ _ h=>h))

theorem does_app (h:RelM cx m st a w) (hhp:∀b x,hp b=some x→hlook b st.heap=some x) {id:Nat} (hf:Fresh st id) {t e tx ty:TypeId} {sz:Nat} (hS:Sl P t e sz) {d:Bool} {b n:Nat} {xs xs' ys:List SV} {sv xv:Value} {y:SV}
  (hsv:OneR w (AOf cx st.heap m) m (.own b 0 n) sv) (hb:hp b=some (.arr d sz xs)) (hn:n≤xs.length) (hxs:xs.take n=xs') (hsrc:SrcS P hp sz d tx y ys) (hxv:OneR w (AOf cx st.heap m) m y xv) (hN:n+ys.length≤4294967296) :
  ∃v w' m',(Builtin.append_ #[t,tx] ty #[sv,xv]).run P w = .ok v w'∧RelM cx m' { st with heap:=[(id,some (.arr d sz (xs'++ys))),(b,none)]++st.heap,al:=[id,b]++st.al } a w' ∧
   VR w' (AOf cx ([(id,some (.arr d sz (xs'++ys))),(b,none)]++st.heap) m') m' (.own id 0 (n+ys.length)) v:=by
 have hA:=hsrc.adds h hhp hS.pos hxv
 have hlx:xs'.length=n:=by rw[← hxs,List.length_take];omega
 obtain⟨hd1,hd2⟩:=h.drop b
 have hA':Adds P w (AOf cx ((b,none)::st.heap) m) (if d then m else noMp) sz tx xv ys:=by
  obtain⟨news,g1,g2,g3⟩:=hA
  refine⟨news,g1,g2,fun i y j z h1 h2=>?_⟩
  refine(g3 i y j z h1 h2).pure _ ?_ (fun _ _ h=>h)
  rintro k (hk | ⟨c,y,s',hy,hs⟩)
  ·exact .inl hk
  ·refine .inr ⟨c,y,s',?_,hs⟩
   unfold hlook at hy ⊢
   by_cases hcb:c=b
   ·rw[look_cons,if_pos hcb] at hy;cases hy
   ·rwa [look_cons,if_neg hcb] at hy
 have hfin:∀ {m' w'},RelM cx m' { st with heap:=(id,some (.arr d sz (xs'++ys)))::(b,none)::st.heap,al:=id::st.al } a w'→RelM cx m' { st with heap:=[(id,some (.arr d sz (xs'++ys))),(b,none)]++st.heap,al:=[id,b]++st.al } a w':=by
  intro m' w' hr
  exact hr.congr (h':=[(id,some (.arr d sz (xs'++ys))),(b,none)]++st.heap) (al':=[id,b]++st.al) (fun _=>rfl) (fun c hc=>by simp at hc ⊢;rcases hc with h | h <;> simp [h])
 cases hsv with
 | own0 hz =>
  rename_i base
  subst hz
  have hx0:xs'=[]:=List.length_eq_zero_iff.1 hlx
  subst hx0
  rcases Nat.eq_zero_or_pos ys.length with h0 | h0
  ·have:ys=[]:=List.length_eq_zero_iff.1 h0
   subst this
   obtain⟨i,z,hi,his,hz',hzs,_,hby⟩:=hS.facts
   obtain⟨news,g1,g2,g3⟩:=hA
   have hnews:news=[]:=List.length_eq_zero_iff.1 (by rw[g1.newsLen];simp)
   subst hnews
   obtain⟨k1,k2⟩:=hd1.empty (id:=id) hf d hS.pos
   refine⟨.slice base 0 0,w,m,?_,hfin k1,.one (.own0 rfl)⟩
   have hst:∀ad:Addr,(storeCells ad []).run P w = .ok () w:=fun ad=>by simp [storeCells]
   have hcells:=g1.cells
   simp only[List.length_nil] at hcells
   have hlen:=g1.len
   simp only[List.length_nil] at hlen
   rcases g1.kind with⟨e',hk⟩ | hk <;> cases base <;> simp [Builtin.append_,run_underlying hS.under,run_underlying hk,sizeOf,typeInfo,hi,his,hlen,hcells,hst]
  ·obtain⟨v,w',m',k1,k2,k3,k4⟩:=app_grow (P:=P) (xs:=[]) (olds:=[]) (ty:=ty) hd1 hf hS (d:=d) (base:=base) (sCap:=0) (by simp) (by
    cases base with
    | none=>exact run_firstCells_none w.drew sz 0 0 0
    | some b=>exact run_firstCells_some w.drew sz 0 b 0 0 [] (by simp) (fun j v hv=>by simp at hv)) (fun x hx=>by cases hx) (fun i x j z hx _=>by simp at hx) hA' (by simpa using h0) (by simpa using hN)
   refine⟨v,w',m',k1,hfin k2,?_⟩
   simpa using k3
 | own hm hrs hc hcap =>
  rename_i g s cap nn
  obtain⟨rfl,hp',C,e',h2,h3,h4,h5⟩:=(h.hp b _ (hhp b _ hb)).cell hm
  have hnn:nn=C.size:=by simp only[rowSize,h2] at hrs;exact(Option.some.inj hrs).symm
  subst hnn
  rw[Nat.zero_add] at hc
  have keyx:∀(i:Nat) (x:SV),xs'[i]?=some x→xs[i]?=some x:=by
   intro i x hx
   rw[← hxs,List.getElem?_take] at hx
   split at hx
   ·exact hx
   ·cases hx
  have hx4:∀x,x ∈ xs'→x.cells.length=s:=fun x hx=>h4 x (by rw[← hxs] at hx;exact List.mem_of_mem_take hx)
  have hns:n * s≤C.size:=Nat.le_trans (Nat.mul_le_mul_right _ hcap) hc
  by_cases hroom:n+ys.length≤cap
  · -- in place
   obtain⟨i,z,hi,his,hz',hzs,_,hby⟩:=hS.facts
   obtain⟨news,g1,g2,g3⟩:=hA
   have hln:=g1.newsLen
   have hfit:n * s+news.length≤C.size:=by rw[hln,← Nat.add_mul];exact Nat.le_trans (Nat.mul_le_mul_right _ hroom) hc
   have hr:=run_append_room_src (P:=P) w t tx ty e i hS.under hi g (0 * s) n cap xv ys.length news (by rw[his];exact g1) hroom
    (fun j hj=>by rw[his,Nat.zero_mul,Nat.zero_add,cell_of_row w g _ C e' (0,0) h2];simp;omega) (fun j _=>by rw[his];exact frozen_of_row w g _ C e' h2)
   rw[his,setCells_updRow g e' news w _ C h2,show 0 * s+n * s=n * s by omega] at hr
   have hbody:∀(w':World) (A':Nat→Prop),w'.heap[g]?=some (.cells (spl C (n * s) news) e' (0,0)) →
     (∀y v,OneR w (AOf cx st.heap m) m y v→OneR w' A' m y v)→(∀y v,OneR w (AOf cx st.heap m) noMp y v→OneR w' A' noMp y v)→BlkR w' A' m b (.arr d s (xs'++ys)):=by
    intro w' A' hw' k1 k2
    have k3:∀y v,OneR w (AOf cx st.heap m) (if d then m else noMp) y v→OneR w' A' (if d then m else noMp) y v:=by cases d;exact k2;exact k1
    refine⟨hS.pos,.inr ⟨g,_,e',hm,hw',?_,?_,?_⟩⟩
    ·rw[spl_size,List.length_append,hlx,Nat.add_mul,← hln];exact hfit
    ·intro x hx
     rcases List.mem_append.1 hx with h | h
     ·exact hx4 x h
     ·exact g2 x h
    ·intro i x j z hx hz
     have hxl:x.cells.length=s:=by
      rcases List.mem_append.1 (List.mem_of_getElem? hx) with h | h
      ·exact hx4 x h
      ·exact g2 x h
     have hj:j < s:=by
      rw[← hxl]
      rcases Nat.lt_or_ge j x.cells.length with h' | h'
      ·exact h'
      ·rw[List.getElem?_eq_none h'] at hz;cases hz
     by_cases hlt:i < n
     ·have:i * s+s≤n * s:=by rw[← Nat.succ_mul];exact Nat.mul_le_mul_right _ hlt
      have hval:(spl C (n * s) news).getD (i * s+j) undef=C.getD (i * s+j) undef:=by rw[spl_getD _ _ _ _ hfit,if_neg (by omega)]
      rw[hval]
      rw[List.getElem?_append_left (by omega)] at hx
      exact k3 _ _ (h5 i x j z (keyx i x hx) hz).2
     ·have h6:n * s≤i * s:=Nat.mul_le_mul_right _ (by omega)
      rw[List.getElem?_append_right (by omega),hlx] at hx
      have hil:i-n < ys.length:=by
       rcases Nat.lt_or_ge (i-n) ys.length with h' | h'
       ·exact h'
       ·rw[List.getElem?_eq_none h'] at hx;cases hx
      have h7:(i-n) * s+s≤ys.length * s:=by rw[← Nat.succ_mul];exact Nat.mul_le_mul_right _ hil
      have h8:(i-n) * s=i * s-n * s:=by rw[Nat.sub_mul]
      have hval:(spl C (n * s) news).getD (i * s+j) undef=news.getD (i * s+j-n * s) undef:=by rw[spl_getD _ _ _ _ hfit,if_pos (by omega)]
      rw[hval]
      have:=k3 _ _ (g3 (i-n) x j z hx hz)
      rwa [show(i-n) * s+j=i * s+j-n * s by omega] at this
   obtain⟨r1,r2⟩:=h.upd (x' := .arr d s (xs'++ys)) (hhp b _ hb) hm h2 (spl_size news C (n * s)) hbody
   obtain⟨m',r3,r4,r5⟩:=r1.rename (b:=b) (g:=g) (s:=s) (x := .arr d s (xs'++ys)) hf (by unfold hlook;rw[look_cons,if_pos rfl]) hm
   have hlk:∀c,hlook c ([(id,some (.arr d s (xs'++ys))),(b,none)]++st.heap)=hlook c ((id,some (.arr d s (xs'++ys)))::(b,none)::(b,some (.arr d s (xs'++ys)))::st.heap):=by
    intro c
    unfold hlook
    simp only[List.cons_append,List.nil_append,look_cons]
    by_cases h1:c=id
    ·simp [h1]
    ·by_cases h2:c=b <;> simp [h1,h2]
   have r6:=r3.congr (h':=[(id,some (.arr d s (xs'++ys))),(b,none)]++st.heap) (al':=[id,b]++st.al) hlk (fun c hc=>by simp at hc ⊢;rcases hc with h | h <;> simp [h])
   refine⟨_,_,m',hr,r6,.one ?_⟩
   refine .own r4 (by unfold rowSize;rw[updRow_self w h2]) (by rw[spl_size,Nat.zero_add];exact hc) hroom
  ·have hh1:∀(i:Nat) (x:SV) (j:Nat) (z:SV),xs'[i]?=some x→x.cells[j]?=some z→OneR w (AOf cx ((b,none)::st.heap) m) (if d then m else noMp) z ((C.toList.take (n * s)).getD (i * s+j) undef):=by
    intro i x j z hx hz
    have hil:i < n:=by
     rw[← hlx]
     rcases Nat.lt_or_ge i xs'.length with h' | h'
     ·exact h'
     ·rw[List.getElem?_eq_none h'] at hx;cases hx
    have hj:j < s:=by
     rw[← hx4 x (List.mem_of_getElem? hx)]
     rcases Nat.lt_or_ge j x.cells.length with h' | h'
     ·exact h'
     ·rw[List.getElem?_eq_none h'] at hz;cases hz
    have h6:i * s+s≤n * s:=by rw[← Nat.succ_mul];exact Nat.mul_le_mul_right _ hil
    have h7:(C.toList.take (n * s)).getD (i * s+j) undef=C.getD (i * s+j) undef:=by
     simp only[List.getD_eq_getElem?_getD,Array.getD_eq_getD_getElem?]
     rw[List.getElem?_take,if_pos (by omega)]
     simp
    rw[h7]
    refine(h5 i x j z (keyx i x hx) hz).2.pure _ ?_ (fun _ _ h=>h)
    rintro k (hk | ⟨c,y,s',hy,hs⟩)
    ·exact .inl hk
    ·refine .inr ⟨c,y,s',?_,hs⟩
     unfold hlook at hy ⊢
     by_cases hcb:c=b
     ·rw[look_cons,if_pos hcb] at hy;cases hy
     ·rwa [look_cons,if_neg hcb] at hy

   obtain⟨v,w',m',k1,k2,k3,k4⟩:=app_grow (P:=P) (xs:=xs') (olds:=C.toList.take (n * s)) (ty:=ty) hd1 hf hS (d:=d) (base:=some ⟨g,0 * s,none⟩) (sCap:=cap) (by rw[List.length_take,hlx];simp;omega) (by
    rw[hlx]
    refine run_firstCells_some w.drew s n ⟨g,0 * s,none⟩ n cap _ (by rw[List.length_take];simp;omega) (fun j v hv=>?_)
    rw[List.getElem?_take] at hv
    split at hv
    ·rw[add_none,Nat.zero_mul,Nat.zero_add]
     show w.cell? _=_
     rw[cell_of_row w g j C e' (0,0) h2]
     simpa using hv
    ·cases hv) hx4 hh1 hA' (by rw[hlx];omega) (by rw[hlx];exact hN)
   ·refine⟨v,w',m',by rw[hlx] at k1;exact k1,hfin k2,?_⟩
    rw[hlx] at k3
    exact k3

end
end Go.Sh
