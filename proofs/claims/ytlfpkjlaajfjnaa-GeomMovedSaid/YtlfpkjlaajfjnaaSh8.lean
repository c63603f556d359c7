/- Literals, slices of slices, calls. -/
import Derived.Test.YtlfpkjlaajfjnaaSh7
set_option linter.unusedVariables false
set_option linter.unusedSimpArgs false
namespace Go.Sh
open Go.RowKit

theorem lt_of_get {α:Type} {l:List α} {i:Nat} {x : α} (h:l[i]?=some x):i < l.length:=by
 rcases Nat.lt_or_ge i l.length with h' | h'
 ·exact h'
 ·rw[List.getElem?_eq_none h'] at h;cases h

def fillS (place:Nat→Option (Nat×Nat)):List SV→List (Nat×SV)→Option (List SV)
 | zs,[]=>some zs
 | zs,(i,x)::r=>match place i with
  | none=>none
  | some (o,n)=>match x.solid && Nat.beq x.cells.length n && Nat.ble (o+n) zs.length with
   | true=>fillS place (splL zs o x.cells) r
   | false=>none

theorem foldl_spl (v:Array Value) (C:Array Value) (o:Nat):v.zipIdx.foldl (fun cs (p:Value×Nat)=>cs.setIfInBounds (o+p.2) p.1) C=spl C o v.toList:=by
 have key:∀(l:List Value) (k:Nat) (C:Array Value),(l.zipIdx k).foldl (fun(cs:Array Value) (p:Value×Nat)=>cs.setIfInBounds (o+p.2) p.1) C=spl C (o+k) l:=by
  intro l
  induction l with
  | nil=>intro k C;rfl
  | cons x l ih=>intro k C;rw[List.zipIdx_cons,List.foldl_cons,ih,spl];rfl
 have:=key v.toList 0 C
 rw[Nat.add_zero] at this
 rw[← this,← Array.foldl_toList,Array.toList_zipIdx]

theorem fill_sound {w:World} {A:Nat→Prop} {m:Mp} {place:Nat→Option (Nat×Nat)} : ∀(ps:List (Nat×SV)) (qs:List (Nat×Value)) (zs r:List SV) (C:Array Value),
  ps.length=qs.length→(∀(k:Nat) (p:Nat×SV) (q:Nat×Value),ps[k]?=some p→qs[k]?=some q→p.1=q.1∧VR w A m p.2 q.2) →
  C.size=zs.length→(∀(j:Nat) (y:SV),zs[j]?=some y→OneR w A m y (C.getD j undef))→fillS place zs ps=some r →
  ∃C',Instr.fill place C qs=some C'∧C'.size=r.length∧∀(j:Nat) (y:SV),r[j]?=some y→OneR w A m y (C'.getD j undef)
 | [],[],zs,r,C,_,_,hs,hz,hf=>by
  simp only[fillS,Option.some.injEq] at hf
  subst hf
  exact⟨C,rfl,hs,hz⟩
 | (i,x)::ps,(i',v)::qs,zs,r,C,hl,hpq,hs,hz,hf=>by
  obtain⟨hii,hv⟩:=hpq 0 (i,x) (i',v) rfl rfl
  simp only at hii hv
  subst hii
  simp only[fillS] at hf
  cases hp:place i with
  | none=>rw[hp] at hf;cases hf
  | some p =>
   obtain⟨o,n⟩:=p
   rw[hp] at hf
   simp only at hf
   split at hf
   ·rename_i hc
    simp only[Bool.and_eq_true] at hc
    obtain⟨⟨hc1,hc2⟩,hc3⟩:=hc
    have hc2:=Nat.eq_of_beq_eq_true hc2
    have hc3:=Nat.le_of_ble_eq_true hc3
    obtain⟨h1,h2⟩:=hv.cells hc1
    have hvl:v.cells.toList.length=x.cells.length:=by simp [h1]
    have hfit:o+v.cells.toList.length≤C.size:=by rw[hvl,hs,hc2];exact hc3
    obtain⟨C',h3,h4,h5⟩:=fill_sound (w:=w) (A:=A) (m:=m) (place:=place) ps qs (splL zs o x.cells) r (spl C o v.cells.toList) (by simpa using hl) (fun k p q hp hq=>hpq (k+1) p q (by simpa using hp) (by simpa using hq))
     (by rw[spl_size,splL_length,hs]) (fun j y hy=>by
      rw[splL_get _ _ _ _ (by omega)] at hy
      rw[spl_getD _ _ _ _ hfit]
      by_cases hcc:o≤j∧j < o+x.cells.length
      ·rw[if_pos hcc] at hy
       rw[if_pos (by rw[hvl];exact hcc)]
       simpa using h2 (j-o) y hy
      ·rw[if_neg hcc] at hy
       rw[if_neg (by rw[hvl];exact hcc)]
       exact hz j y hy) hf
    refine⟨C',?_,h4,h5⟩
    simp only[Instr.fill,hp]
    rw[if_neg (by simp;constructor <;> omega),foldl_spl]
    exact h3
   ·cases hf
 | [],_::_,_,_,_,h,_,_,_,_=>by simp at h
 | _::_,[],_,_,_,h,_,_,_,_=>by simp at h

section
variable {P:Program} {cx:Cx} {m:Mp} {st:St} {a:Act} {w:World} {hp:Nat→Option Blk} {E:Operand→SV}

theorem parts_rel (hE:EvR cx m st a w E) (parts:Array (Nat×Operand)):∀(k:Nat) (p:Nat×SV) (q:Nat×Value),(parts.toList.map fun p=>(p.1,E p.2))[k]?=some p →
  (parts.map fun(i,x)=>(i,a.eval x)).toList[k]?=some q→p.1=q.1∧VR w (AOf cx st.heap m) m p.2 q.2:=by
 intro k p q hp hq
 simp only[List.getElem?_map,Option.map_eq_some_iff,Array.toList_map] at hp hq
 obtain⟨r,hr,rfl⟩:=hp
 obtain⟨r',hr',rfl⟩:=hq
 rw[hr] at hr'
 cases hr'
 exact⟨rfl,hE _⟩

theorem does_build (h:RelM cx m st a w) (hE:EvR cx m st a w E) {t:TypeId} {parts:Array (Nat×Operand)} {z:Value} {zs r:List SV} {places:List (Nat×Nat)} {fs:Array Field} (hu:P.underlying t=some (.struct fs))
  (hpl:fs.toList.mapM (fun f=>(P.info? f.type).map fun i=>(f.offset,i.size))=some places) (hz:(P.info? t).bind (fun i=>i.zero)=some z) (hzs:ofConst z = .agg zs)
  (hf:fillS (places.toArray[·]?) zs (parts.toList.map fun p=>(p.1,E p.2))=some r) :
  ∃v,(Instr.build t (parts.map fun(i,x)=>(i,a.eval x))).run P w = .ok v w∧VR w (AOf cx st.heap m) m (.agg r) v:=by
 have hzv:VR w (AOf cx st.heap m) m (.agg zs) z:=by rw[← hzs];exact ofConst_VR ..
 obtain⟨h1,h2⟩:=hzv.cells rfl
 obtain⟨C',h3,h4,h5⟩:=fill_sound (w:=w) (A:=AOf cx st.heap m) (m:=m) (place:=(places.toArray[·]?)) _ (parts.map fun(i,x)=>(i,a.eval x)).toList zs r z.cells (by simp) (parts_rel hE parts) h1 h2 hf
 refine⟨.agg C',run_build w t _ C' ?_,.agg h4 h5⟩
 cases hi:P.info? t with
 | none=>simp [hi] at hz
 | some it =>
  simp only[hi,Option.bind_some] at hz
  unfold Program.built
  simp only[hi,hu,hz,hpl]
  exact h3

theorem does_buildA (h:RelM cx m st a w) (hE:EvR cx m st a w E) {t e:TypeId} {n sz:Nat} {parts:Array (Nat×Operand)} {z:Value} {zs r:List SV} (hu:P.underlying t=some (.array n e)) (hsz:(P.info? e).map (·.size)=some sz)
  (hz:(P.info? t).bind (fun i=>i.zero)=some z) (hzs:ofConst z = .agg zs)
  (hf:fillS (fun i=>some (i * sz,sz)) zs (parts.toList.map fun p=>(p.1,E p.2))=some r) :
  ∃v,(Instr.build t (parts.map fun(i,x)=>(i,a.eval x))).run P w = .ok v w∧VR w (AOf cx st.heap m) m (.agg r) v:=by
 have hzv:VR w (AOf cx st.heap m) m (.agg zs) z:=by rw[← hzs];exact ofConst_VR ..
 obtain⟨h1,h2⟩:=hzv.cells rfl
 obtain⟨C',h3,h4,h5⟩:=fill_sound (w:=w) (A:=AOf cx st.heap m) (m:=m) (place:=(fun i=>some (i * sz,sz))) _ (parts.map fun(i,x)=>(i,a.eval x)).toList zs r z.cells (by simp) (parts_rel hE parts) h1 h2 hf
 refine⟨.agg C',run_build w t _ C' ?_,.agg h4 h5⟩
 cases hi:P.info? t with
 | none=>simp [hi] at hz
 | some it =>
  simp only[hi,Option.bind_some] at hz
  cases hie:P.info? e with
  | none=>simp [hie] at hsz
  | some ie =>
   have:ie.size=sz:=by simpa [hie] using hsz
   unfold Program.built
   simp only[hi,hu,hz,hie,this]
   exact h3

theorem spl_append:∀(xs ys:List Value) (C:Array Value) (o:Nat),spl C o (xs++ys)=spl (spl C o xs) (o+xs.length) ys
 | [],_,_,_=>rfl
 | x::xs,ys,C,o=>by
  rw[List.cons_append,spl,spl,spl_append xs,List.length_cons]
  congr 1
  omega

theorem flat_get {α:Type} (sz:Nat):∀(l:List (List α)) (i j:Nat) (x:List α),(∀x,x ∈ l→x.length=sz)→l[i]?=some x→j < sz→l.flatten[i * sz+j]?=x[j]?
 | [],i,_,_,_,h,_=>by simp at h
 | y::l,0,j,x,hl,h,hj=>by
  simp at h
  subst h
  have:=hl y (by simp)
  rw[List.flatten_cons,Nat.zero_mul,Nat.zero_add,List.getElem?_append_left (by omega)]
 | y::l,i+1,j,x,hl,h,hj=>by
  have hy:=hl y (by simp)
  rw[List.flatten_cons,List.getElem?_append_right (by rw[hy,Nat.succ_mul];omega),hy]
  have:=flat_get sz l i j x (fun x hx=>hl x (by simp [hx])) (by simpa using h) hj
  rwa [show(i+1) * sz+j-sz=i * sz+j by rw[Nat.succ_mul];omega]

theorem fill_full (sz:Nat):∀(vs:List Value) (k:Nat) (C:Array Value),(∀v,v ∈ vs→v.cells.size=sz)→(k+vs.length) * sz≤C.size →
  Instr.fill (fun i=>some (i * sz,sz)) C ((List.range' k vs.length).zip vs)=some (spl C (k * sz) (vs.map fun v=>v.cells.toList).flatten)
 | [],k,C,_,_=>rfl
 | v::vs,k,C,hv,hC=>by
  have h1:=hv v (by simp)
  rw[List.length_cons,List.range'_succ,List.zip_cons_cons]
  have hle:k * sz+sz≤C.size:=by
   refine Nat.le_trans ?_ hC
   rw[List.length_cons,← Nat.succ_mul]
   exact Nat.mul_le_mul_right _ (by omega)
  simp only[Instr.fill]
  rw[if_neg (by simp;constructor <;> omega),foldl_spl]
  rw[fill_full sz vs (k+1) _ (fun u hu=>hv u (by simp [hu])) (by rw[spl_size];refine Nat.le_trans ?_ hC;rw[List.length_cons];exact Nat.mul_le_mul_right _ (by omega))]
  rw[List.map_cons,List.flatten_cons,spl_append]
  congr 2
  rw[Nat.succ_mul]
  simp [h1]

theorem does_bslice (h:RelM cx m st a w) (hE:EvR cx m st a w E) {id:Nat} (hf:Fresh st id) {t e:TypeId} {sz len:Nat} (hS:Sl P t e sz) {d:Bool} {parts:Array (Nat×Operand)} {ys:List SV} (hix:parts.toList.map (·.1)=List.range' 0 len)
  (hys:(parts.toList.map fun p=>E p.2)=ys) (hsol:∀y,y ∈ ys→y.solid=true∧y.cells.length=sz∧(d=false→roC y=true)) (hlim:len * sz≤16777216) :
  ∃v w' m',(Instr.buildSlice t len (parts.map fun(i,x)=>(i,a.eval x))).run P w = .ok v w'∧RelM cx m' { st with heap:=[(id,some (.arr d sz ys))]++st.heap,al:=[id]++st.al } a w' ∧
   VR w' (AOf cx ([(id,some (.arr d sz ys))]++st.heap) m') m' (.own id 0 len) v:=by
 obtain⟨i,z,hi,his,hz,hzs,_,hby⟩:=hS.facts
 have hplen:parts.toList.length=len:=by have:=congrArg List.length hix;simpa using this
 have hyl:ys.length=len:=by rw[← hys];simpa using hplen
 let vs:=parts.toList.map fun p=>a.eval p.2
 have hvl:vs.length=len:=by simpa [vs] using hplen
 have hvr:∀(k:Nat) (y:SV),ys[k]?=some y→∃v,vs[k]?=some v∧VR w (AOf cx st.heap m) m y v:=by
  intro k y hy
  rw[← hys] at hy
  simp only[List.getElem?_map,Option.map_eq_some_iff] at hy
  obtain⟨p,hp,rfl⟩:=hy
  exact⟨a.eval p.2,by simp only[vs,List.getElem?_map,hp,Option.map_some],hE _⟩
 have hvsz:∀v,v ∈ vs→v.cells.size=sz:=by
  intro v hv
  obtain⟨k,hk⟩:=List.getElem?_of_mem hv
  have hkl:=lt_of_get hk
  obtain⟨v',h1,h2⟩:=hvr k ys[k] (by simp [show k < ys.length by omega])
  rw[hk] at h1
  cases h1
  obtain⟨s1,s2,_⟩:=hsol ys[k] (List.getElem_mem _)
  rw[(h2.cells s1).1,s2]
 have hqs:(parts.map fun(i,x)=>(i,a.eval x)).toList=(List.range' 0 vs.length).zip vs:=by
  rw[hvl,← hix]
  simp only[Array.toList_map,vs]
  generalize parts.toList=l
  induction l with
  | nil=>rfl
  | cons p l ih=>simp only[List.map_cons,List.zip_cons_cons,ih]
 generalize hZ:(Array.range (len * sz)).map ((if len * sz=0 then #[] else z.cells)[· % (if len * sz=0 then (#[]:Array Value) else z.cells).size]!)=Z
 have hZs:Z.size=len * sz:=by rw[← hZ];simp
 have hfill:=fill_full sz vs 0 Z hvsz (by rw[hZs,Nat.zero_add,hvl];exact Nat.le_refl _)
 rw[← hqs,Nat.zero_mul] at hfill
 generalize hC:spl Z 0 (vs.map fun v=>v.cells.toList).flatten=C at hfill
 have hCs:C.size=len * sz:=by rw[← hC,spl_size,hZs]
 have hr:(Instr.buildSlice t len (parts.map fun(i,x)=>(i,a.eval x))).run P w = .ok (.slice (some ⟨w.heap.size,0,none⟩) len len) (w.alloc (.cells C e)):=by
  unfold Instr.buildSlice
  rw[Sem.run_bind,run_underlying hS.under]
  simp only[Result.andThen_ok,Sem.run_bind,hS.run_size]
  rw[if_neg (by omega)]
  by_cases hz0:len * sz=0
  ·simp only[if_pos hz0] at hZ
   rw[if_pos hz0]
   simp only[Sem.run_bind,Sem.run_pure,Result.andThen_ok,hZ,hfill]
   simp [newRow]
  ·simp only[if_neg hz0] at hZ
   rw[if_neg hz0]
   simp only[Sem.run_bind,zeroValue,typeInfo,run_program,hi,hz,Sem.run_pure,Result.andThen_ok,hZ,hfill]
   simp [newRow]
 have hflen:(vs.map fun v=>v.cells.toList).flatten.length=len * sz:=by
  rw[List.length_flatten,List.map_map]
  have:vs.map (List.length ∘ fun v=>v.cells.toList)=List.replicate len sz:=by
   rw[← hvl]
   apply List.ext_getElem
   ·simp
   ·intro k h1 h2
    simp only[List.getElem_map,Function.comp,List.getElem_replicate,Array.length_toList]
    exact hvsz _ (List.getElem_mem _)
  rw[this]
  simp
 have hcell:∀(k:Nat) (y:SV) (j:Nat) (u:SV),ys[k]?=some y→y.cells[j]?=some u→OneR w (AOf cx st.heap m) (if d then m else noMp) u (C.getD (k * sz+j) undef):=by
  intro k y j u hy hu
  have hkl:=lt_of_get hy
  obtain⟨v,h1,h2⟩:=hvr k y hy
  obtain⟨s1,s2,s3⟩:=hsol y (List.mem_of_getElem? hy)
  obtain⟨c1,c2⟩:=h2.cells s1
  have hj:j < sz:=by rw[← s2];exact lt_of_get hu
  have hlt:k * sz+j < len * sz:=by
   have:k * sz+sz≤len * sz:=by rw[← Nat.succ_mul];exact Nat.mul_le_mul_right _ (by omega)
   omega
  have hval:C.getD (k * sz+j) undef=v.cells.getD j undef:=by
   rw[← hC,spl_getD _ _ _ _ (by rw[hflen,hZs,Nat.zero_add];exact Nat.le_refl _),if_pos ⟨Nat.zero_le _,by rw[hflen];omega⟩,Nat.sub_zero]
   have:=flat_get sz (vs.map fun v=>v.cells.toList) k j v.cells.toList (fun x hx=>by
    obtain⟨u,hu,rfl⟩:=List.mem_map.1 hx
    simpa using hvsz u hu) (by simp [h1]) hj
   simp only[List.getD_eq_getElem?_getD,this]
   simp
  rw[hval]
  have:=c2 j u hu
  cases d
  ·refine ro1_sound ?_ this
   have hr:=s3 rfl
   cases y with
   | agg cs=>exact List.all_eq_true.1 hr u (List.mem_of_getElem? hu)
   | _ =>
    cases j with
    | zero=>simp [SV.cells] at hu;subst hu;exact hr
    | succ j=>simp [SV.cells] at hu
  ·exact this
 obtain⟨m',h3,h4,h5,h6⟩:=h.alloc (id:=id) (s:=sz) (x := .arr d sz ys) hf C e (fun w' A' m' hm' hw' k1 k2=>by
  refine⟨hS.pos,.inr ⟨w.heap.size,C,e,hm',hw',by rw[hCs,hyl];exact Nat.le_refl _,fun y hy=>(hsol y hy).2.1,?_⟩⟩
  intro k y j u hy hu
  have:=hcell k y j u hy hu
  cases d
  ·exact k2 _ _ this
  ·exact k1 _ _ this)
 refine⟨_,_,m',hr,h3,.one ?_⟩
 have:(.slice (some ⟨w.heap.size,0,none⟩) len len:Value) = .slice (some ⟨w.heap.size,0 * sz,none⟩) len len:=by rw[Nat.zero_mul]
 rw[this]
 exact .own h4 h5 (by rw[hCs,Nat.zero_add];exact Nat.le_refl _) (Nat.le_refl _)

end
end Go.Sh
