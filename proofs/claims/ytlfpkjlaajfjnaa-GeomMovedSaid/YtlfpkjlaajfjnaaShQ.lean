/- Maps of whole numbers: what the model's operations do with them. -/
import Derived.Test.YtlfpkjlaajfjnaaSh9
set_option linter.unusedVariables false
set_option linter.unusedSimpArgs false
namespace Go.Sh
open Go.RowKit

def mfind:List (Int×Int)→Int→Nat→Option (Nat×Int)
 | [],_,_=>none
 | p::l,k,i=>if k=p.1 then some (i,p.2) else mfind l k (i+1)
def mget (l:List (Int×Int)) (k:Int):Option Int:=(mfind l k 0).map (·.2)
def mset:List (Int×Int)→Int→Int→List (Int×Int)
 | [],k,v=>[(k,v)]
 | p::l,k,v=>if k=p.1 then (k,v)::l else p::mset l k v

theorem findNow_mes (k:Int):∀(l:List (Int×Int)) (n i:Nat),Instr.findNow (.int .i64) (.int .i64 k) (mes l n) i=some ((mfind l k i).map fun q=>(q.1,.int .i64 q.2))
 | [],n,i=>rfl
 | p::l,n,i=>by
  rw[mes,Instr.findNow,mfind]
  by_cases h:k=p.1
  ·simp [Instr.sameNow,h]
  ·have hb:(k == p.1)=false:=by simpa using h
   simp only[Instr.sameNow,if_true,hb,h,if_false]
   exact findNow_mes k l (n+1) (i+1)
theorem mset_none (k v:Int):∀(l:List (Int×Int)) (n i:Nat),mfind l k i=none→mes (mset l k v) n=mes l n++[⟨.int .i64 k,.int .i64 v,n+l.length⟩]∧(mset l k v).length=l.length+1
 | [],n,i,_=>⟨rfl,rfl⟩
 | p::l,n,i,h=>by
  rw[mfind] at h
  by_cases hk:k=p.1
  ·rw[if_pos hk] at h;cases h
  ·rw[if_neg hk] at h
   obtain⟨h1,h2⟩:=mset_none k v l (n+1) (i+1) h
   rw[mset,if_neg hk,mes,mes,h1]
   exact⟨by rw[List.cons_append,List.length_cons];congr 4;omega,by rw[List.length_cons,List.length_cons,h2]⟩
theorem mset_some (k v:Int):∀(l:List (Int×Int)) (n i j:Nat) (u:Int),mfind l k i=some (j,u)→i≤j∧mes (mset l k v) n=(mes l n).modify (j-i) (fun e => { e with key := .int .i64 k,val := .int .i64 v })∧(mset l k v).length=l.length∧((mes l n)[j-i]?).map (·.key)=some (.int .i64 k)
 | [],n,i,j,u,h=>by cases h
 | p::l,n,i,j,u,h=>by
  rw[mfind] at h
  by_cases hk:k=p.1
  ·rw[if_pos hk] at h
   cases h
   rw[mset,if_pos hk,mes,mes,Nat.sub_self]
   exact⟨Nat.le_refl _,by simp,rfl,by simp [hk]⟩
  ·rw[if_neg hk] at h
   obtain⟨h1,h2,h3,h4⟩:=mset_some k v l (n+1) (i+1) j u h
   obtain⟨q,hq⟩:∃q,j-i=q+1:=⟨j-i-1,by omega⟩
   have hq2:j-(i+1)=q:=by omega
   rw[hq2] at h2 h4
   rw[mset,if_neg hk,mes,mes,hq,h2]
   exact⟨by omega,by simp,by rw[List.length_cons,List.length_cons,h3],by simpa using h4⟩
section
variable {P:Program}
theorem getMap {w:World} {g:Nat} {l:List (Int×Int)} (hb:w.heap[g]?=some (mobj l)):(getObj g).run P w = .ok (.map (mes l 0).toArray l.length) w:=by
 unfold mobj at hb
 simp [getObj,Sem.run,hb]
theorem setMap {w:World} {g:Nat} {l:List (Int×Int)} (o:Obj) (hb:w.heap[g]?=some (mobj l)):(setObj g o).run P w = .ok () (updRow w g o):=by
 unfold mobj at hb
 simp [setObj,Sem.run,hb,updRow]
theorem run_checkKey {kt:TypeId} (hk:P.underlying kt=some (.int .i64)) (e:Bool) (k:Int) (w:World):(Instr.checkKey e 10000 kt (.int .i64 k)).run P w = .ok () w:=by
 have h:∀n,(Instr.checkKey e (n+1) kt (.int .i64 k)).run P w = .ok () w:=fun n=>by
  rw[Instr.checkKey]
  simp [run_underlying hk]
 exact h 9999
theorem run_lookup {xt kt:TypeId} {et:TypeId} (hx:P.underlying xt=some (.map kt et)) (hk:P.underlying kt=some (.int .i64)) (hz:(P.info? et).bind (fun i=>i.zero)=some (.int .i64 0)) {w:World} {g:Nat} {l:List (Int×Int)} (hg:w.heap[g]?=some (mobj l)) (k:Int) :
  (Instr.lookup xt (.map (some g)) (.int .i64 k) true).run P w = .ok (.tuple #[.int .i64 ((mget l k).getD 0),.bool (mget l k).isSome]) w:=by
 unfold Instr.lookup
 have hf:=findNow_mes k l 0 0
 have hi:∃i,P.info? et=some i∧i.zero=some (.int .i64 0):=by
  cases h:P.info? et with
  | none=>rw[h] at hz;cases hz
  | some i=>rw[h] at hz;exact⟨i,rfl,hz⟩
 obtain⟨it,hi1,hi2⟩:=hi
 unfold mget
 cases hm:mfind l k 0 with
 | none =>
  rw[hm] at hf
  simp [run_underlying hx,getMap hg,run_checkKey hk,run_underlying hk,Instr.findKey,hf,zeroValue,typeInfo,hi1,hi2]
 | some q =>
  rw[hm] at hf
  simp [run_underlying hx,getMap hg,run_checkKey hk,run_underlying hk,Instr.findKey,hf]
theorem sameInt (n:Nat) (k:Int):Instr.sameBits n (.int .i64 k) (.int .i64 k)=true:=by
 unfold Instr.sameBits
 simp
theorem run_stays (k:Int) (w:World):(Instr.keyThatStays (.int .i64 k) (.int .i64 k)).run P w = .ok (.int .i64 k) w:=by
 unfold Instr.keyThatStays
 rw[if_pos (sameInt 10000 k)]
 rfl
theorem run_mapUpdate {mt kt et:TypeId} (hx:P.underlying mt=some (.map kt et)) (hk:P.underlying kt=some (.int .i64)) {w:World} {g:Nat} {l:List (Int×Int)} (hg:w.heap[g]?=some (mobj l)) (k v:Int) :
  (Instr.mapUpdate mt (.map (some g)) (.int .i64 k) (.int .i64 v)).run P w = .ok () (updRow w g (mobj (mset l k v))):=by
 unfold Instr.mapUpdate
 have hf:=findNow_mes k l 0 0
 cases hm:mfind l k 0 with
 | none =>
  rw[hm] at hf
  obtain⟨h1,h2⟩:=mset_none k v l 0 0 hm
  have he:mobj (mset l k v) = .map ((mes l 0).toArray.push ⟨.int .i64 k,.int .i64 v,l.length⟩) (l.length+1):=by
   unfold mobj
   rw[h1,h2]
   simp
  rw[he]
  simp [run_underlying hx,getMap hg,run_checkKey hk,run_underlying hk,Instr.findKey,hf,setMap _ hg]
 | some q =>
  obtain⟨j,u⟩:=q
  rw[hm] at hf
  obtain⟨_,h1,h2,h3⟩:=mset_some k v l 0 0 j u hm
  rw[Nat.sub_zero] at h1 h3
  have he:mobj (mset l k v) = .map ((mes l 0).toArray.modify j (fun e => { e with key := .int .i64 k,val := .int .i64 v })) l.length:=by
   unfold mobj
   rw[h1,h2]
   simp
  have h4:(((mes l 0).toArray[j]?).map (·.key)).getD (.int .i64 k) = .int .i64 k:=by
   rw[List.getElem?_toArray,h3]
   rfl
  rw[he]
  simp only[Sem.run_bind,run_underlying hx,getMap hg,run_checkKey hk,Instr.findKey,run_underlying hk,Result.andThen,hf,Option.map_some,Sem.run_pure,h4,run_stays,setMap _ hg]
theorem run_makeMap (t:TypeId) (w:World):(Instr.makeMap t none).run P w = .ok (.map (some w.heap.size)) (w.alloc (mobj [])):=by
 unfold Instr.makeMap
 simp [mobj,mes]
end
theorem RelM.allocM {cx:Cx} {m:Mp} {st:St} {a:Act} {w:World} {id:Nat} (h:RelM cx m st a w) (hf:Fresh st id) :
  ∃m',RelM cx m' { st with heap:=(id,some (.mpb []))::st.heap,al:=id::st.al } a (w.alloc (mobj []))∧m' id=some (w.heap.size,0):=by
 have hnew:(w.alloc (mobj [])).heap[w.heap.size]?=some (mobj []):=heap_alloc_new w _
 have hb:=below_alloc' w (mobj [])
 have hmid:m id=none:=by
  cases hq:m id with
  | none=>rfl
  | some q=>exact absurd (h.dom id q hq).1 hf
 let m1:Mp:=fun b=>if b=id then some (w.heap.size,0) else none
 have hm1:∀b p,m1 b=some p→b=id∧p=(w.heap.size,0):=by
  intro b p hp
  simp only[m1] at hp
  split at hp
  ·rename_i hh;exact⟨hh,(Option.some.inj hp).symm⟩
  ·cases hp
 refine⟨fun b=>(m1 b).or (m b),?_,by simp [m1]⟩
 refine h.imp (m1:=m1) (news:=[(id,some (.mpb []))]) hb (fun b hbb=>List.mem_cons_of_mem _ hbb) ?_ ?_ ?_
 ·intro b p hp
  obtain⟨rfl,rfl⟩:=hm1 b p hp
  exact⟨hf,List.mem_cons_self,Nat.le_refl _,by simp⟩
 ·intro b b' g s1 s2 h1 h2
  rw[(hm1 b _ h1).1,(hm1 b' _ h2).1]
 ·intro b y hy
  rw[look_cons] at hy
  split at hy
  ·rename_i hbi
   subst hbi
   simp only[Option.some.injEq] at hy
   exact⟨hf,List.mem_cons_self,.mpb [],hy.symm,w.heap.size,0,by simp [m1],hnew⟩
  ·simp [look] at hy
theorem RelM.updM {cx:Cx} {m:Mp} {st:St} {a:Act} {w:World} {b g s:Nat} {l:List (Int×Int)} (l':List (Int×Int)) (h:RelM cx m st a w)
  (hl:hlook b st.heap=some (.mpb l)) (hm:m b=some (g,s)) (hg:w.heap[g]?=some (mobj l)) :
  RelM cx m { st with heap:=(b,some (.mpb l'))::st.heap } a (updRow w g (mobj l')):=by
 have hnew:=updRow_self w (o':=mobj l') hg
 have hro:∀k,¬AOf cx st.heap m k→k < w.heap.size→(updRow w g (mobj l')).heap[k]?=w.heap[k]?:=by
  intro k hk _
  exact updRow_ne w fun hh=>hk (.inr ⟨b,_,s,hl,by rw[hm,hh]⟩)
 have hA:∀k,AOf cx ((b,some (.mpb l'))::st.heap) m k→AOf cx st.heap m k∨w.heap.size≤k:=by
  rintro k (hk | ⟨b',y,s',hy,hs⟩)
  ·exact .inl (.inl hk)
  ·by_cases hb:b'=b
   ·subst hb;exact .inl (.inr ⟨b',_,s',hl,hs⟩)
   ·refine .inl (.inr ⟨b',y,s',?_,hs⟩)
    unfold hlook at hy ⊢
    rwa [look_cons,if_neg hb] at hy
 have hsz:∀k n,rowSize w k=some n→rowSize (updRow w g (mobj l')) k=some n:=by
  intro k n hk
  by_cases hkg:k=g
  ·subst hkg
   simp only[rowSize,hg,mobj] at hk
   cases hk
  ·rw[rowSize_of (updRow_ne w hkg)];exact hk
 have hbase:=(h.dom b _ hm).2.1
 refine h.change (heap':=(b,some (.mpb l'))::st.heap) (al':=st.al) ⟨rfl,rfl,rfl,by simp [updRow],fun k hk he=>updRow_ne w (fun e=>by subst e;rcases hbase with h | h;exact absurd h (Nat.not_le_of_lt hk);exact he h),hsz⟩ hro hA hsz (fun _ _ h=>h) (fun _ _=>rfl)
  (fun c p hp=>⟨(h.dom c p hp).1,(h.dom c p hp).2.1,by simpa [updRow] using (h.dom c p hp).2.2⟩) ?_ ?_ ?_
 ·intro c y hy
  by_cases hc:c=b
  ·subst hc;exact(h.dom c _ hm).1
  ·unfold hlook at hy;rw[look_cons,if_neg hc] at hy;exact h.hnx c y hy
 ·intro c c' y y' k s1 s2 h1 h2 h3 h4
  have f:∀c y,hlook c ((b,some (.mpb l'))::st.heap)=some y→∃z,hlook c st.heap=some z:=by
   intro c y hy
   by_cases hc:c=b
   ·subst hc;exact⟨_,hl⟩
   ·unfold hlook at hy ⊢;rw[look_cons,if_neg hc] at hy;exact⟨y,hy⟩
  obtain⟨z,hz⟩:=f c y h1
  obtain⟨z',hz'⟩:=f c' y' h2
  exact h.inj c c' z z' k s1 s2 hz hz' h3 h4
 ·intro c y hy
  by_cases hc:c=b
  ·subst hc
   have:some (.mpb l')=some y:=by unfold hlook at hy;rw[look_cons,if_pos rfl] at hy;exact hy
   cases this
   exact⟨g,s,hm,hnew⟩
  ·have hy':hlook c st.heap=some y:=by unfold hlook at hy ⊢;rwa [look_cons,if_neg hc] at hy
   refine(h.hp c y hy').mono rfl hro hA hsz (fun _ _ h=>h) ?_
   intro k s' hs
   refine updRow_ne w fun hh=>hc ?_
   subst hh
   exact h.inj c b y _ k s' s hy' hl hs hm
theorem omp_at {cx:Cx} {m:Mp} {st:St} {a:Act} {w:World} {b:Nat} {l:List (Int×Int)} (h:RelM cx m st a w) (hl:hlook b st.heap=some (.mpb l)) {v:Value} (hv:OneR w (AOf cx st.heap m) m (.omp b) v):∃g s,v = .map (some g)∧m b=some (g,s)∧w.heap[g]?=some (mobj l):=by
 cases hv with
 | omp hm =>
  rename_i g s
  obtain⟨g',s',h1,h2⟩:=h.hp b _ hl
  rw[hm] at h1
  cases h1
  exact⟨g,s,rfl,hm,h2⟩
end Go.Sh
