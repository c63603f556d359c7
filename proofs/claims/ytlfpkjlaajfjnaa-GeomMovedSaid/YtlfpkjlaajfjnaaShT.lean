/- Ranges over maps: what the model's operations do with an iterator. -/
import Derived.Test.YtlfpkjlaajfjnaaShQ
set_option linter.unusedVariables false
set_option linter.unusedSimpArgs false
namespace Go.Sh
open Go.RowKit

theorem mes_born:∀(l:List (Int×Int)) (n:Nat) (x:MapEntry),x ∈ mes l n→n≤x.born∧x.born < n+l.length
 | [],n,x,h=>by simp [mes] at h
 | p::l,n,x,h=>by
  rw[mes] at h
  rcases List.mem_cons.1 h with rfl | h
  ·simp
  ·have:=mes_born l (n+1) x h
   simp only[List.length_cons]
   omega
theorem mes_nodup:∀(l:List (Int×Int)) (n:Nat),((mes l n).map (·.born)).Nodup
 | [],n=>by simp [mes]
 | p::l,n=>by
  rw[mes,List.map_cons,List.nodup_cons]
  refine⟨fun h=>?_,mes_nodup l (n+1)⟩
  obtain⟨x,hx,hb⟩:=List.mem_map.1 h
  have:=mes_born l (n+1) x hx
  have hb:x.born=n:=hb
  omega
theorem mes_kv:∀(l:List (Int×Int)) (n:Nat),(mes l n).map (fun x=>(x.key,x.val))=l.map ekv
 | [],n=>rfl
 | p::l,n=>by rw[mes,List.map_cons,List.map_cons,mes_kv l (n+1)];rfl

theorem left_list (es:Array MapEntry) (seen:Array Nat):(leftOf es seen).toList=es.toList.filter fun e => !seen.contains e.born:=by
 unfold leftOf
 simp

theorem ItR.start (l:List (Int×Int)):ItR l l none #[]:=by
 refine⟨?_,fun p h=>by cases h⟩
 rw[left_list]
 simp only[List.toList_toArray]
 rw[List.filter_eq_self.2 (fun x _=>by simp),mes_kv]
theorem ItR.nil {l r:List (Int×Int)} {e:Option (Int×Int)} {seen:Array Nat} (h:ItR l r e seen) (h0:(leftOf (mes l 0).toArray seen).size=0):r=[]:=by
 have:=congrArg List.length h.1
 simp only[List.length_map,Array.length_toList,h0] at this
 exact List.length_eq_zero_iff.1 this.symm
theorem ItR.step {l r:List (Int×Int)} {e:Option (Int×Int)} {seen:Array Nat} (h:ItR l r e seen) {x:MapEntry} (hx:x ∈ (leftOf (mes l 0).toArray seen).toList) :
  ∃r1 p r2,r=r1++p::r2∧(x.key,x.val)=ekv p∧ItR l (r1++r2) (some p) (seen.push x.born):=by
 have hL:=left_list (mes l 0).toArray seen
 simp only[List.toList_toArray] at hL
 have hmem:x ∈ mes l 0:=by rw[hL] at hx;exact(List.mem_filter.1 hx).1
 have hnd:((leftOf (mes l 0).toArray seen).toList.map (·.born)).Nodup:=by
  rw[hL]
  exact(mes_nodup l 0).sublist (List.Sublist.map _ List.filter_sublist)
 have hL2:=left_list (mes l 0).toArray (seen.push x.born)
 simp only[List.toList_toArray] at hL2
 have h1:=h.1
 generalize (leftOf (mes l 0).toArray seen).toList=L at hL hx hnd h1
 obtain⟨L1,L2,rfl⟩:=List.append_of_mem hx
 rw[List.map_append,List.map_cons] at h1
 obtain⟨r1,r',hr,hr1,hr2⟩:=List.map_eq_append_iff.1 h1.symm
 obtain⟨p,r2,hr3,hp,hr4⟩:=List.map_eq_cons_iff.1 hr2
 refine⟨r1,p,r2,by rw[hr,hr3],hp.symm,?_,?_⟩
 ·have hf:(mes l 0).filter (fun e => !(seen.push x.born).contains e.born)=L1++L2:=by
   have e1:(fun e:MapEntry => !(seen.push x.born).contains e.born)=fun e=>(!(e.born == x.born)) && !seen.contains e.born:=by
    funext e
    rw[Array.contains_push]
    rw[Bool.not_or,Bool.and_comm]
   rw[e1,← List.filter_filter,← hL,List.filter_append,List.filter_cons]
   rw[List.map_append,List.map_cons,List.nodup_append,List.nodup_cons] at hnd
   obtain⟨_,⟨n1,_⟩,n2⟩:=hnd
   rw[List.filter_eq_self.2 (fun y hy=>by
    have:=n2 y.born (List.mem_map_of_mem hy) x.born (by simp)
    simpa using this),List.filter_eq_self.2 (fun y hy=>by
    have:x.born ≠ y.born:=fun e=>n1 (e▸List.mem_map_of_mem hy)
    simp only[Bool.not_eq_true',beq_eq_false_iff_ne,ne_eq]
    exact fun e=>this e.symm)]
   simp
  rw[hL2,hf,List.map_append,List.map_append,hr1,hr4]
 ·rintro q hq
  cases hq
  exact⟨x,seen,hmem,rfl,hp.symm⟩

theorem RelM.allocI {cx:Cx} {m:Mp} {st:St} {a:Act} {w:World} {id gm:Nat} {l:List (Int×Int)} (h:RelM cx m st a w) (hf:Fresh st id) (hg:¬AOf cx st.heap m gm) (hl:w.heap[gm]?=some (mobj l)) :
  ∃m',RelM cx m' { st with heap:=(id,some (.iter l l none))::st.heap,al:=id::st.al } a (w.alloc (.mapIter (some gm) l.length #[] l.length))∧m' id=some (w.heap.size,0):=by
 have hnew:(w.alloc (.mapIter (some gm) l.length #[] l.length)).heap[w.heap.size]?=some (.mapIter (some gm) l.length #[] l.length):=heap_alloc_new w _
 have hb:=below_alloc' w (.mapIter (some gm) l.length #[] l.length)
 have hlt:gm < w.heap.size:=by
  rcases Nat.lt_or_ge gm w.heap.size with h | h
  ·exact h
  ·rw[Array.getElem?_eq_none h] at hl
   cases hl
 have hmid:m id=none:=by
  cases hq:m id with
  | none=>rfl
  | some q=>exact absurd (h.dom id q hq).1 hf
 let m1:Mp:=fun b=>if b=id then some (w.heap.size,0) else none
 have hm1:∀b p,m1 b=some p→b=id∧p=(w.heap.size,0):=by
  intro b p hp
  simp only[m1] at hp
  split at hp
  ·rename_i hh;exact⟨hh,(Option.some.inj hp).symm⟩
  ·cases hp
 refine⟨fun b=>(m1 b).or (m b),?_,by simp [m1]⟩
 refine h.imp (m1:=m1) (news:=[(id,some (.iter l l none))]) hb (fun b hbb=>List.mem_cons_of_mem _ hbb) ?_ ?_ ?_
 ·intro b p hp
  obtain⟨rfl,rfl⟩:=hm1 b p hp
  exact⟨hf,List.mem_cons_self,Nat.le_refl _,by simp⟩
 ·intro b b' g s1 s2 h1 h2
  rw[(hm1 b _ h1).1,(hm1 b' _ h2).1]
 ·intro b y hy
  rw[look_cons] at hy
  split at hy
  ·rename_i hbi
   subst hbi
   simp only[Option.some.injEq] at hy
   refine⟨hf,List.mem_cons_self,.iter l l none,hy.symm,w.heap.size,0,gm,#[],by simp [m1],hnew,?_,by rw[hb.block gm hlt];exact hl,ItR.start l⟩
   rintro (hk | ⟨c,z,s,hz,hs⟩)
   ·exact hg (.inl hk)
   ·cases hq:m1 c with
    | some q =>
     simp only[hq,Option.some_or,Option.some.injEq] at hs
     subst hs
     obtain⟨_,h2⟩:=hm1 c _ hq
     cases h2
     omega
    | none =>
     simp only[hq,Option.none_or] at hs
     rw[hlook_append] at hz
     have:look c [(b,some (Blk.iter l l none))]=none:=by
      rw[look_cons,if_neg]
      ·rfl
      ·rintro rfl
       simp [m1] at hq
     rw[this] at hz
     exact hg (.inr ⟨c,z,s,hz,hs⟩)
  ·simp [look] at hy
theorem RelM.trunc {cx:Cx} {m:Mp} {st:St} {a:Act} {w:World} {b sz:Nat} {d:Bool} {xs:List SV} (h:RelM cx m st a w) (hl:hlook b st.heap=some (.arr d sz xs)) (n:Nat) :
  RelM cx m { st with heap:=(b,some (.arr d sz (xs.take n)))::st.heap } a w:=by
 have hA:∀k,AOf cx ((b,some (.arr d sz (xs.take n)))::st.heap) m k→AOf cx st.heap m k:=by
  rintro k (hk | ⟨b',y,s',hy,hs⟩)
  ·exact .inl hk
  ·by_cases hb:b'=b
   ·subst hb;exact .inr ⟨b',_,s',hl,hs⟩
   ·refine .inr ⟨b',y,s',?_,hs⟩
    unfold hlook at hy ⊢
    rwa [look_cons,if_neg hb] at hy
 refine h.change (heap':=(b,some (.arr d sz (xs.take n)))::st.heap) (al':=st.al) (BelowE.refl _ _ _) (fun _ _ _=>rfl) (fun g hg => .inl (hA g hg)) (fun _ _ h=>h) (fun _ _ h=>h) (fun _ _=>rfl) h.dom ?_ ?_ ?_
 ·intro c y hy
  by_cases hc:c=b
  ·subst hc;exact h.hnx c _ hl
  ·unfold hlook at hy;rw[look_cons,if_neg hc] at hy;exact h.hnx c y hy
 ·intro c c' y y' k s1 s2 h1 h2 h3 h4
  have f:∀c y,hlook c ((b,some (.arr d sz (xs.take n)))::st.heap)=some y→∃z,hlook c st.heap=some z:=by
   intro c y hy
   by_cases hc:c=b
   ·subst hc;exact⟨_,hl⟩
   ·unfold hlook at hy ⊢;rw[look_cons,if_neg hc] at hy;exact⟨y,hy⟩
  obtain⟨z,hz⟩:=f c y h1
  obtain⟨z',hz'⟩:=f c' y' h2
  exact h.inj c c' z z' k s1 s2 hz hz' h3 h4
 ·intro c y hy
  by_cases hc:c=b
  ·subst hc
   have:some (Blk.arr d sz (xs.take n))=some y:=by unfold hlook at hy;rw[look_cons,if_pos rfl] at hy;exact hy
   cases this
   have hbr:=h.hp c _ hl
   obtain⟨hp,⟨q1,q2⟩ | ⟨g,C,e,q1,q2,q3,q4,q5⟩⟩:=hbr
   ·exact⟨hp,.inl ⟨q1,by rw[q2];simp⟩⟩
   ·refine⟨hp,.inr ⟨g,C,e,q1,q2,?_,fun x hx=>q4 x (List.mem_of_mem_take hx),fun i x j y hx hy=>?_⟩⟩
    ·exact Nat.le_trans (Nat.mul_le_mul_right _ (by rw[List.length_take];omega)) q3
    ·rw[List.getElem?_take] at hx
     split at hx
     ·exact(q5 i x j y hx hy).pure _ hA (fun _ _ h=>h)
     ·cases hx
  ·have hy':hlook c st.heap=some y:=by unfold hlook at hy ⊢;rwa [look_cons,if_neg hc] at hy
   exact(h.hp c y hy').mono rfl (fun _ _ _=>rfl) (fun g hg => .inl (hA g hg)) (fun _ _ h=>h) (fun _ _ h=>h) (fun _ _ _=>rfl)
theorem does_clear {P:Program} {cx:Cx} {m:Mp} {st:St} {a:Act} {w:World} {t e:TypeId} {sz b off len:Nat} {d:Bool} {xs:List SV} {sv:Value} (h:RelM cx m st a w) (hS:Sl P t e sz) (hsv:OneR w (AOf cx st.heap m) m (.own b off len) sv) (hb:hlook b st.heap=some (.arr d sz xs)) {ts:Array TypeId} (ht:ts[0]?=some t) (ty:TypeId) {z0:Value} {u:SV} (hz0:(P.info? e).bind (fun i=>i.zero)=some z0) (hu:ZeroV z0 u) (hus:u.solid=true) :
  ∃w',(Builtin.clear_ ts ty #[sv]).run P w = .ok (.tuple #[]) w'∧RelM cx m { st with heap:=(b,some (.arr d sz (xs.take off)))::st.heap } a w':=by
 cases hsv with
 | own0 hz =>
  subst hz
  rename_i base
  refine⟨w,?_,h.trunc hb off⟩
  cases base <;> simp [Builtin.clear_,ht,run_underlying hS.under]
 | own hm hn hc hcap =>
  rename_i g s cap n
  obtain⟨rfl,hp',C,e',h2,h3,h4,h5⟩:=(h.hp b _ hb).cell hm
  have hnn:n=C.size:=by simp only[rowSize,h2] at hn;exact(Option.some.inj hn).symm
  subst hnn
  rcases Nat.eq_zero_or_pos len with h0 | h0
  ·subst h0
   exact⟨w,by simp [Builtin.clear_,ht,run_underlying hS.under],h.trunc hb off⟩
  ·obtain⟨i,z,hi,his,hz,hzs,_,hby⟩:=hS.facts
   have hlen:(Builtin.zeroCells z.cells len).toList.length=len * s:=by simp [size_zeroCells,hzs]
   have hfit:off * s+(Builtin.zeroCells z.cells len).toList.length≤C.size:=by
    rw[hlen,← Nat.add_mul]
    exact Nat.le_trans (Nat.mul_le_mul_right _ (by omega)) hc
   have hone:∀v,v ∈ (Builtin.zeroCells z.cells len).toList→one v=true:=by
    intro v hv
    have hzz:z=z0:=by simp only[hi,Option.bind_some,hz] at hz0;exact Option.some.inj hz0
    subst hzz
    obtain⟨c1,c2⟩:=(hu w (fun _=>False) noMp).cells hus
    simp only[Builtin.zeroCells,Array.toList_map,List.mem_map] at hv
    obtain⟨k,hk,rfl⟩:=hv
    have hsz:0 < z.cells.size:=by rw[hzs];exact hp'
    have hkl:k % z.cells.size < z.cells.size:=Nat.mod_lt _ hsz
    have:=(c2 (k % z.cells.size) (u.cells[k % z.cells.size]'(by omega)) (List.getElem?_eq_getElem _)).isOne
    simpa [hkl] using this
   have hr:=run_storeCells' (P:=P) (Builtin.zeroCells z.cells len).toList w g (off * s) C e' h2 hfit hone
   refine⟨updRow w g (.cells (spl C (off * s) (Builtin.zeroCells z.cells len).toList) e' (0,0)),?_,(h.upd (x' := .arr d s (xs.take off)) hb hm h2 (spl_size (Builtin.zeroCells z.cells len).toList C (off * s)) (fun w' A' hw' k1 k2=>?_)).1⟩
   ·have hne:len ≠ 0:=by omega
    simp [Builtin.clear_,ht,run_underlying hS.under,zeroValue,typeInfo,hi,hz,hr]
   ·have k3:∀y v,OneR w (AOf cx st.heap m) (if d then m else noMp) y v→OneR w' A' (if d then m else noMp) y v:=by cases d;exact k2;exact k1
    refine⟨hp',.inr ⟨g,_,e',hm,hw',?_,fun x hx=>h4 x (List.mem_of_mem_take hx),fun i x j y hx hy=>?_⟩⟩
    ·rw[spl_size]
     exact Nat.le_trans (Nat.mul_le_mul_right _ (by rw[List.length_take];omega)) h3
    ·rw[List.getElem?_take] at hx
     split at hx
     ·rename_i hio
      have hj:j < s:=by rw[← h4 x (List.mem_of_getElem? hx)];exact lt_of_get hy
      have:i * s+s≤off * s:=by rw[← Nat.succ_mul];exact Nat.mul_le_mul_right _ hio
      have hval:(spl C (off * s) (Builtin.zeroCells z.cells len).toList).getD (i * s+j) undef=C.getD (i * s+j) undef:=by rw[spl_getD _ _ _ _ hfit,if_neg (by omega)]
      rw[hval]
      exact k3 _ _ (h5 i x j y hx hy).2
     ·cases hx
theorem run_append_mk {P:Program} {w:World} (t tx ty e:TypeId) (i:TypeInfo) (z:Value) (ht:P.underlying t=some (.slice e)) (htx:P.underlying tx=some (.int .i64)) (hi:P.info? e=some i) (hz:i.zero=some z) (n:Nat) (h0:0 < n) (h63:(n:Int)≤9223372036854775807) (hb:(n:Int) * (i.bytes:Int)≤281474976710656)
  (hfit:Builtin.nextslicecap n 0 * i.bytes≤281474976710656) (hs:0 < i.size) :
  (Builtin.append_ #[t,tx] ty #[.slice none 0 0,.int .i64 n]).run P w =
   .ok (.slice (some ⟨w.heap.size,0,none⟩) n (grownCap w n 0 e)) (w.drew.alloc (.cells (Builtin.zeroCells z.cells n++Builtin.zeroCells z.cells (grownCap w n 0 e-n)) e)):=by
 have hw:IntKind.i64.wrap (n:Int)=(n:Int):=by rw[IntKind.wrap_i64];omega
 have h1:¬((n:Int) < 0):=by omega
 have h2:¬(281474976710656 < (n:Int) * (i.bytes:Int)):=by omega
 have h3:¬(n≤0):=by omega
 have h4:¬(9223372036854775807 < (n:Int)):=by omega
 have h5:¬(281474976710656 < Builtin.nextslicecap n 0 * i.bytes):=by omega
 have h6:¬(n * i.size=0):=by
  intro h
  rcases Nat.mul_eq_zero.1 h with h | h <;> omega
 have h7:¬(n=0):=by omega
 have h8:¬(i.size=0):=by omega
 simp [Builtin.append_,run_underlying ht,run_underlying htx,sizeOf,typeInfo,zeroValue,hi,hz,asInt,asIntOf,hw,h1,h2,h3,h4,h5,h6,h7,h8,Question.forced,newRow,grownCap,run_firstCells_none]
theorem does_appMk {P:Program} {cx:Cx} {m:Mp} {st:St} {a:Act} {w:World} (h:RelM cx m st a w) {id:Nat} (hf:Fresh st id) {t e tx ty:TypeId} {sz:Nat} (hS:Sl P t e sz) (htx:P.underlying tx=some (.int .i64)) {d:Bool} {n:Nat} (h0:0 < n) (hN:n≤4294967296) :
  ∃v w' m',(Builtin.append_ #[t,tx] ty #[.slice none 0 0,.int .i64 n]).run P w = .ok v w'∧RelM cx m' { st with heap:=[(id,some (.arr d sz []))]++st.heap,al:=[id]++st.al } a w' ∧
   VR w' (AOf cx ([(id,some (.arr d sz []))]++st.heap) m') m' (.own id 0 n) v:=by
 obtain⟨i,z,hi,his,hz,hzs,_,hby⟩:=hS.facts
 have hb48:n * i.bytes≤140737488355328:=by
  have:=Nat.mul_le_mul hN hby
  omega
 have hb:(n:Int) * (i.bytes:Int)≤281474976710656:=by
  rw[← Int.natCast_mul]
  omega
 have hr:=run_append_mk (P:=P) (w:=w) t tx ty e i z hS.under htx hi hz n h0 (by omega) hb (growslice_fits h0 hb48) (by rw[his];exact hS.pos)
 have hcap:=grownCap_ge w n 0 e
 generalize grownCap w n 0 e=cap at hr hcap
 have hCs:(Builtin.zeroCells z.cells n++Builtin.zeroCells z.cells (cap-n)).size=cap * sz:=by
  simp only[Array.size_append,size_zeroCells,hzs]
  rw[← Nat.add_mul]
  congr 1
  omega
 generalize Builtin.zeroCells z.cells n++Builtin.zeroCells z.cells (cap-n)=C at hr hCs
 obtain⟨m',h3,h4,h5,h6⟩:=h.drew.alloc (id:=id) (s:=sz) (x := .arr d sz []) hf C e (fun w' A' m' hm' hw' k1 k2=>⟨hS.pos,.inr ⟨w.heap.size,C,e,hm',hw',by simp,fun x hx=>by simp at hx,fun i x j y hx=>by simp at hx⟩⟩)
 refine⟨_,_,m',hr,h3,.one ?_⟩
 have:(.slice (some ⟨w.heap.size,0,none⟩) n cap:Value) = .slice (some ⟨w.heap.size,0 * sz,none⟩) n cap:=by rw[Nat.zero_mul]
 rw[this]
 exact .own h4 h5 (by rw[hCs,Nat.zero_add];exact Nat.le_refl _) hcap
theorem RelM.updI {cx:Cx} {m:Mp} {st:St} {a:Act} {w:World} {b g s gm:Nat} {l r r':List (Int×Int)} {e e':Option (Int×Int)} {sn:Array Nat} (h:RelM cx m st a w)
  (hl:hlook b st.heap=some (.iter l r e)) (hm:m b=some (g,s)) {o:Obj} (hg:w.heap[g]?=some (.mapIter (some gm) l.length sn l.length)) {sn':Array Nat} (hgm:¬AOf cx st.heap m gm) (hgl:w.heap[gm]?=some (mobj l)) (hi:ItR l r' e' sn') :
  RelM cx m { st with heap:=(b,some (.iter l r' e'))::st.heap } a (updRow w g (.mapIter (some gm) l.length sn' l.length)):=by
 have hnew:=updRow_self w (o' := .mapIter (some gm) l.length sn' l.length) hg
 have hro:∀k,¬AOf cx st.heap m k→k < w.heap.size→(updRow w g (.mapIter (some gm) l.length sn' l.length)).heap[k]?=w.heap[k]?:=by
  intro k hk _
  exact updRow_ne w fun hh=>hk (.inr ⟨b,_,s,hl,by rw[hm,hh]⟩)
 have hA:∀k,AOf cx ((b,some (.iter l r' e'))::st.heap) m k→AOf cx st.heap m k∨w.heap.size≤k:=by
  rintro k (hk | ⟨b',y,s',hy,hs⟩)
  ·exact .inl (.inl hk)
  ·by_cases hb:b'=b
   ·subst hb;exact .inl (.inr ⟨b',_,s',hl,hs⟩)
   ·refine .inl (.inr ⟨b',y,s',?_,hs⟩)
    unfold hlook at hy ⊢
    rwa [look_cons,if_neg hb] at hy
 have hsz:∀k n,rowSize w k=some n→rowSize (updRow w g (.mapIter (some gm) l.length sn' l.length)) k=some n:=by
  intro k n hk
  by_cases hkg:k=g
  ·subst hkg
   simp only[rowSize,hg] at hk
   cases hk
  ·rw[rowSize_of (updRow_ne w hkg)];exact hk
 have hlt:gm < w.heap.size:=by
  rcases Nat.lt_or_ge gm w.heap.size with h | h
  ·exact h
  ·rw[Array.getElem?_eq_none h] at hgl
   cases hgl
 have hbase:=(h.dom b _ hm).2.1
 refine h.change (heap':=(b,some (.iter l r' e'))::st.heap) (al':=st.al) ⟨rfl,rfl,rfl,by simp [updRow],fun k hk he=>updRow_ne w (fun e=>by subst e;rcases hbase with h | h;exact absurd h (Nat.not_le_of_lt hk);exact he h),hsz⟩ hro hA hsz (fun _ _ h=>h) (fun _ _=>rfl)
  (fun c p hp=>⟨(h.dom c p hp).1,(h.dom c p hp).2.1,by simpa [updRow] using (h.dom c p hp).2.2⟩) ?_ ?_ ?_
 ·intro c y hy
  by_cases hc:c=b
  ·subst hc;exact(h.dom c _ hm).1
  ·unfold hlook at hy;rw[look_cons,if_neg hc] at hy;exact h.hnx c y hy
 ·intro c c' y y' k s1 s2 h1 h2 h3 h4
  have f:∀c y,hlook c ((b,some (.iter l r' e'))::st.heap)=some y→∃z,hlook c st.heap=some z:=by
   intro c y hy
   by_cases hc:c=b
   ·subst hc;exact⟨_,hl⟩
   ·unfold hlook at hy ⊢;rw[look_cons,if_neg hc] at hy;exact⟨y,hy⟩
  obtain⟨z,hz⟩:=f c y h1
  obtain⟨z',hz'⟩:=f c' y' h2
  exact h.inj c c' z z' k s1 s2 hz hz' h3 h4
 ·intro c y hy
  by_cases hc:c=b
  ·subst hc
   have:some (.iter l r' e')=some y:=by unfold hlook at hy;rw[look_cons,if_pos rfl] at hy;exact hy
   cases this
   refine⟨g,s,gm,sn',hm,hnew,fun h6=>?_,by rw[hro gm hgm hlt];exact hgl,hi⟩
   rcases hA _ h6 with h | h
   ·exact hgm h
   ·omega
  ·have hy':hlook c st.heap=some y:=by unfold hlook at hy ⊢;rwa [look_cons,if_neg hc] at hy
   refine(h.hp c y hy').mono rfl hro hA hsz (fun _ _ h=>h) ?_
   intro k s' hs
   refine updRow_ne w fun hh=>hc ?_
   subst hh
   exact h.inj c b y _ k s' s hy' hl hs hm
end Go.Sh
