/- Slices of slices, calls; the operations all together. -/
import Derived.Test.YtlfpkjlaajfjnaaSh8
set_option linter.unusedVariables false
set_option linter.unusedSimpArgs false
namespace Go.Sh
open Go.RowKit

def OptB (ev:Operand→SV) (o:Option Operand) (d n:Nat):Prop :=
 match o with
 | none=>n=d
 | some x=>∃k i,ev x = .v (.int k i)∧i=(n:Int)

section
variable {P:Program} {cx:Cx} {m:Mp} {st:St} {a:Act} {w:World} {hp:Nat→Option Blk} {E:Operand→SV}

theorem OptB.val (hE:EvR cx m st a w E) {o:Option Operand} {d n:Nat} (hb:OptB (E) o d n):(o=none∧n=d)∨∃x k,o=some x∧a.eval x = .int k (n:Int):=by
 cases o with
 | none=>exact .inl ⟨rfl,hb⟩
 | some x =>
  obtain⟨k,i,h1,rfl⟩:=hb
  exact .inr ⟨x,k,rfl,hE.evV h1⟩

theorem run_sliceBound (k:IntKind) (n y:Nat) (c:BoundsCode) (hn:n≤y) (w:World):(Instr.sliceBound (.int k n) y c).run P w = .ok n w:=by
 have h1:(0:Int)≤(n:Int)∧(n:Int)≤(y:Int):=⟨Int.natCast_nonneg n,by omega⟩
 simp [Instr.sliceBound,asIntOf,h1]

theorem run_sliceBounds (hE:EvR cx m st a w E) {lo hi mx:Option Operand} {len cap l hh mm:Nat} (hl:OptB (E) lo 0 l) (hhi:OptB (E) hi len hh) (hm:OptB (E) mx cap mm) (hmh:mx.isSome=true→hi.isSome=true)
  (h1:l≤hh) (h2:hh≤mm) (h3:mm≤cap) (b:Bool):(Instr.sliceBounds b len cap (lo.map a.eval) (hi.map a.eval) (mx.map a.eval)).run P w = .ok (l,hh,mm) w:=by
 unfold Instr.sliceBounds
 rcases hl.val hE with⟨rfl,rfl⟩ | ⟨x1,k1,rfl,e1⟩ <;> rcases hhi.val hE with⟨rfl,rfl⟩ | ⟨x2,k2,rfl,e2⟩ <;> rcases hm.val hE with⟨rfl,rfl⟩ | ⟨x3,k3,rfl,e3⟩ <;>
  first
   | (simp at hmh;done)
   | (simp [*,run_sliceBound _ _ _ _ h1,run_sliceBound _ _ _ _ h2,run_sliceBound _ _ _ _ h3,run_sliceBound _ _ _ _ (Nat.le_trans h2 h3)];done)

theorem run_sliceAt (hE:EvR cx m st a w E) {t e:TypeId} {sz:Nat} (hS:Sl P t e sz) {lo hi mx:Option Operand} {base:Option Addr} {len cap l hh mm:Nat} (hl:OptB (E) lo 0 l) (hhi:OptB (E) hi len hh) (hm:OptB (E) mx cap mm) (hmh:mx.isSome=true→hi.isSome=true)
  (h1:l≤hh) (h2:hh≤mm) (h3:mm≤cap):(Instr.sliceAt t (.slice base len cap) (lo.map a.eval) (hi.map a.eval) (mx.map a.eval)).run P w = .ok (.slice (if mm=l then base else base.map (·.add (l * sz))) (hh-l) (mm-l)) w:=by
 simp [Instr.sliceAt,Instr.slice,run_underlying hS.under,run_sliceBounds (P:=P) hE hl hhi hm hmh h1 h2 h3,hS.run_size]

theorem does_sliceO (h:RelM cx m st a w) (hE:EvR cx m st a w E) (hhp:∀b x,hp b=some x→hlook b st.heap=some x) {t e:TypeId} {sz:Nat} (hS:Sl P t e sz) {lo hi mx:Option Operand} {b off len l hh:Nat} {d:Bool} {xs:List SV} {sv:Value} (hsv:OneR w (AOf cx st.heap m) m (.own b off len) sv)
  (hb:hp b=some (.arr d sz xs)) (hl:OptB (E) lo 0 l) (hhi:OptB (E) hi len hh) (hm:mx=none∨OptB (E) mx 0 hh∧mx.isSome=true∧hi.isSome=true) (h1:l≤hh) (h2:hh≤len) :
  ∃v,(Instr.sliceAt t sv (lo.map a.eval) (hi.map a.eval) (mx.map a.eval)).run P w = .ok v w∧VR w (AOf cx st.heap m) m (.own b (off+l) (hh-l)) v:=by
 cases hsv with
 | own0 hz =>
  rename_i base
  subst hz
  have hh0:hh=0:=by omega
  have hl0:l=0:=by omega
  subst hh0 hl0
  rcases hm with rfl | ⟨hm,hm1,hm2⟩
  ·have hr:=run_sliceAt (P:=P) hE hS (base:=base) (len:=0) (cap:=0) (mm:=0) hl hhi (mx:=none) rfl (by simp) (Nat.le_refl _) (Nat.le_refl _) (Nat.le_refl _)
   exact⟨_,hr,.one (.own0 rfl)⟩
  ·have hr:=run_sliceAt (P:=P) hE hS (base:=base) (len:=0) (cap:=0) (mm:=0) hl hhi (mx:=mx) hm (fun _=>hm2) (Nat.le_refl _) (Nat.le_refl _) (Nat.le_refl _)
   exact⟨_,hr,.one (.own0 rfl)⟩
 | own hmb hn hc hcap =>
  rename_i g s cap n
  obtain⟨rfl,_⟩:=(h.hp b _ (hhp b _ hb)).cell hmb
  obtain⟨mm,hmm,hmx,hmi⟩:∃mm,hh≤mm∧OptB (E) mx cap mm∧mm≤cap∧(mx.isSome=true→hi.isSome=true):=by
   rcases hm with rfl | ⟨hm,hm1,hm2⟩
   ·exact⟨cap,by omega,rfl,Nat.le_refl _,by simp⟩
   ·refine⟨hh,Nat.le_refl _,?_,by omega,fun _=>hm2⟩
    cases mx with
    | none=>simp at hm1
    | some x=>exact hm
  have hr:=run_sliceAt (P:=P) hE hS (base:=some ⟨g,off * s,none⟩) (len:=len) (cap:=cap) (mm:=mm) hl hhi hmx hmi.2 h1 hmm hmi.1
  refine⟨_,hr,.one ?_⟩
  by_cases hml:mm=l
  ·have h0:hh-l=0:=by omega
   rw[h0,hml,Nat.sub_self]
   exact .own0 rfl
  ·rw[if_neg hml]
   simp only[Option.map_some,add_none,← Nat.add_mul]
   exact .own hmb hn (by refine Nat.le_trans (Nat.mul_le_mul_right _ ?_) hc;omega) (by omega)

theorem does_sliceL (h:RelM cx m st a w) (hE:EvR cx m st a w E) {t e:TypeId} {sz:Nat} (hS:Sl P t e sz) {lo hi mx:Option Operand} {l hh:Nat} {xs:List SV} {sv:Value} (hsv:OneR w (AOf cx st.heap m) m (.lst xs) sv)
  (hsz:∀x,x ∈ xs→x.cells.length=sz) (hl:OptB (E) lo 0 l) (hhi:OptB (E) hi xs.length hh) (hm:mx=none∨OptB (E) mx 0 hh∧mx.isSome=true∧hi.isSome=true) (h1:l≤hh) (h2:hh≤xs.length) :
  ∃v,(Instr.sliceAt t sv (lo.map a.eval) (hi.map a.eval) (mx.map a.eval)).run P w = .ok v w∧VR w (AOf cx st.heap m) m (.lst ((xs.drop l).take (hh-l))) v:=by
 have mmx:∀cap,hh≤cap→∃mm,hh≤mm∧OptB (E) mx cap mm∧mm≤cap∧(mx.isSome=true→hi.isSome=true):=by
  intro cap hcap
  rcases hm with rfl | ⟨hm,hm1,hm2⟩
  ·exact⟨cap,hcap,rfl,Nat.le_refl _,by simp⟩
  ·refine⟨hh,Nat.le_refl _,?_,hcap,fun _=>hm2⟩
   cases mx with
   | none=>simp at hm1
   | some x=>exact hm
 have hlen:((xs.drop l).take (hh-l)).length=hh-l:=by rw[List.length_take,List.length_drop];omega
 cases hsv with
 | nil =>
  rename_i base c
  have hh0:hh=0:=by simpa using h2
  have hl0:l=0:=by omega
  subst hh0 hl0
  obtain⟨mm,q1,q2,q3,q4⟩:=mmx c (Nat.zero_le _)
  have hr:=run_sliceAt (P:=P) hE hS (base:=base) (len:=0) (cap:=c) (mm:=mm) hl hhi q2 q4 (Nat.le_refl _) q1 q3
  exact⟨_,hr,.one .nil⟩
 | lst C hc hp' hl' hm' hr' =>
  rename_i blk off c sz'
  obtain⟨mm,q1,q2,q3,q4⟩:=mmx c (by omega)
  have hr:=run_sliceAt (P:=P) hE hS (base:=some ⟨blk,off,none⟩) (len:=xs.length) (cap:=c) (mm:=mm) hl hhi q2 q4 h1 q1 q3
  refine⟨_,hr,.one ?_⟩
  rcases Nat.eq_zero_or_pos (hh-l) with h0 | h0
  ·have:(xs.drop l).take (hh-l)=[]:=List.length_eq_zero_iff.1 (by rw[hlen];exact h0)
   rw[this,h0]
   exact .nil
  ·rw[if_neg (by omega)]
   simp only[Option.map_some,add_none]
   have hx0:l < xs.length:=by omega
   obtain rfl:sz'=sz:=by rw[← hl' _ (List.getElem_mem hx0),hsz _ (List.getElem_mem hx0)]
   have key:∀(i:Nat) (x:SV),((xs.drop l).take (hh-l))[i]?=some x→xs[l+i]?=some x:=by
    intro i x hx
    rw[List.getElem?_take] at hx
    split at hx
    ·rwa [List.getElem?_drop] at hx
    ·cases hx
   have:=OneR.lst (w:=w) (A:=AOf cx st.heap m) (m:=m) (xs:=(xs.drop l).take (hh-l)) (blk:=blk) (off:=off+l * sz') (c:=mm-l) (sz:=sz') (fun i j=>C (l+i) j) (by rw[hlen];omega) hp'
    (fun x hx=>hl' x (List.mem_of_mem_drop (List.mem_of_mem_take hx))) (fun i x j y hx hy=>by
     have:=hm' (l+i) x j y (key i x hx) hy
     rw[show off+l * sz'+(i * sz'+j)=off+((l+i) * sz'+j) by rw[Nat.add_mul];omega]
     exact this) (fun i x j y hx hy=>hr' (l+i) x j y (key i x hx) hy)
   rwa [hlen] at this

/-! ### Calls -/
theorem look_newsOf:∀(bs:List Blk) (id k:Nat) (x:Option Blk),look k (newsOf id bs)=some x ↔ ∃i b,k=id+i∧bs[i]?=some b∧x=some b
 | [],id,k,x=>by simp [newsOf,look]
 | b::bs,id,k,x=>by
  rw[newsOf,look_cons]
  split
  ·rename_i hk
   subst hk
   constructor
   ·intro h
    exact⟨0,b,rfl,rfl,(Option.some.inj h).symm⟩
   ·rintro ⟨i,b',h1,h2,rfl⟩
    have:i=0:=by omega
    subst this
    simp at h2
    rw[h2]
  ·rename_i hk
   rw[look_newsOf bs]
   constructor
   ·rintro ⟨i,b',rfl,h2,rfl⟩
    exact⟨i+1,b',by omega,by simpa using h2,rfl⟩
   ·rintro ⟨i,b',rfl,h2,rfl⟩
    cases i with
    | zero=>exact absurd rfl hk
    | succ i=>exact⟨i,b',by omega,by simpa using h2,rfl⟩

theorem newsOf_keys:∀(bs:List Blk) (id k:Nat),k ∈ (newsOf id bs).map (·.1) ↔ id≤k∧k < id+bs.length
 | [],id,k=>by simp only[newsOf,List.map_nil,List.not_mem_nil,List.length_nil,false_iff];omega
 | b::bs,id,k=>by
  rw[newsOf,List.map_cons,List.mem_cons,newsOf_keys bs]
  simp only[List.length_cons]
  omega

theorem imp1_ro (n:Nat) (x:SV):∀b,b ∈ (imp1 n x).2→∃sz xs,b = .arr false sz xs:=by
 intro b hb
 cases x <;> simp [imp1] at hb
 exact⟨_,_,hb⟩
theorem impL_ro {f:Nat→SV→SV×List Blk} (hf:∀n x b,b ∈ (f n x).2→∃sz xs,b = .arr false sz xs):∀(l:List SV) (n:Nat) (b:Blk),b ∈ (impL f n l).2→∃sz xs,b = .arr false sz xs
 | [],n,b,hb=>by simp [impL] at hb
 | x::l,n,b,hb=>by
  simp only[impL,List.mem_append] at hb
  rcases hb with h | h
  ·exact hf n x b h
  ·exact impL_ro hf l _ b h
theorem impC_ro (n:Nat) (x:SV):∀b,b ∈ (impC n x).2→∃sz xs,b = .arr false sz xs:=by
 intro b hb
 cases x with
 | agg cs=>exact impL_ro imp1_ro cs n b hb
 | _=>exact imp1_ro n _ b hb
theorem impT_ro (n:Nat) (x:SV):∀b,b ∈ (impT n x).2→∃sz xs,b = .arr false sz xs:=by
 intro b hb
 cases x with
 | tup xs=>exact impL_ro impC_ro xs n b hb
 | _=>exact impC_ro n _ b hb

theorem arg_sound (h:RelM cx m st a w) (hhp:∀b x,hp b=some x→hlook b st.heap=some x) {al:Bool} {x y:SV} {v:Value} (he:ArgOk hp al x y) (hv:VR w (AOf cx st.heap m) m x v):VR w (fun g=>al=true∧AOf cx st.heap m g) noMp y v:=by
 cases al with
 | true =>
  have he:RoR x y:=he
  exact(he.sound hv).mono (fun _ _ _=>rfl) (fun g hg => .inl hg.2) (fun _ _ h=>h) (fun _ _ h=>h)
 | false =>
  have he:ExtC hp x y:=he
  exact(he.sound h hhp hv).mono (fun _ _ _=>rfl) (fun g hg=>by simp at hg) (fun _ _ h=>h) (fun _ _ h=>h)

theorem goes_call {o:Oper} (hEv:∀m a w,RelM cx m st a w→EvR cx m st a w E) {x:Operand} {args:Array Operand} {ts:Array TypeId} (ho:o.op = .call ⟨.value x,args,ts⟩) (hd:∀t,o.dst=some t→t < cx.n) (hhp:∀b x,hp b=some x→hlook b st.heap=some x)
  {id:Nat} (hf:∀k,id≤k→k < id+8→Fresh st k) {al:Bool} {f:FuncId} {cs ys cs':List SV} {res:SV} (hx:E x = .clo f cs) (hc:AllR (ArgOk hp al) cs cs') (ha:AllR (ArgOk hp al) (args.toList.map (E)) ys)
  (h:PC P al f (ys++cs') res) (h8:(impT 0 res).2.length≤8):Goes P cx o st (st.app o.dst (impT id res).1 (newsOf id (impT 0 res).2)):=by
 rintro a w ⟨m,hR⟩
 have hE:=hEv m a w hR
 have hv:=hE.ev1 hx (by simp) (by simp) (by simp)
 generalize hq:a.eval x=q at hv
 cases hv with
 | clo hvl hvc =>
  rename_i vs
  obtain⟨fn,hfn,hname,hbody⟩:=h.enters
  have hrun:(execOp a.eval o).run P w = .ok (.enter f (args.map a.eval++vs)) w:=by
   have hname':¬fn.name = "runtime.NumGoroutine":=by simpa using hname
   have hbody':¬fn.body=none:=by intro hh;rw[hh] at hbody;cases hbody
   simp [execOp,ho,resolve,hq,Deferred.ofValue,invoke,callFunc,hfn,hname',hbody']
  unfold Oper.wp
  rw[hrun]
  simp only[Oper.upon]
  have hlen1:=ha.len
  have hlen2:=hc.len
  simp only[List.length_map,Array.length_toList] at hlen1
  refine(h.calls w (AOf cx st.heap m) (args.map a.eval++vs) ?_ ?_ ?_).mono ?_
  ·rintro g (hg | ⟨b,y,s,hy,hs⟩)
   ·exact Nat.lt_of_lt_of_le (hR.bsmall g hg).1 hR.basele
   ·exact(hR.dom b _ hs).2.2
  ·simp [hlen1,hlen2,hvl]
  ·intro j y hy
   by_cases hj:j < ys.length
   ·rw[List.getElem?_append_left hj] at hy
    have hj':j < args.toList.length:=by simpa using (by omega:j < args.size)
    have hr:=ha.get j (E args[j]) y (by simp [show j < args.size by omega]) hy
    have hval:(args.map a.eval++vs).getD j undef=a.eval args[j]:=by
     simp only[Array.getD_eq_getD_getElem?]
     rw[Array.getElem?_append_left (by simp;omega)]
     simp [show j < args.size by omega]
    rw[hval]
    exact arg_sound hR hhp hr (hE _)
   ·rw[List.getElem?_append_right (by omega)] at hy
    have hj2:j-ys.length < cs.length:=by have:=lt_of_get hy;omega
    have hr:=hc.get (j-ys.length) cs[j-ys.length] y (by simp [hj2]) hy
    have hval:(args.map a.eval++vs).getD j undef=vs.getD (j-ys.length) undef:=by
     simp only[Array.getD_eq_getD_getElem?]
     rw[Array.getElem?_append_right (by simp;omega)]
     simp [hlen1]
    rw[hval]
    exact arg_sound hR hhp hr (.one (hvc _ _ (by simp [hj2])))
  ·rintro e w' ⟨v,rfl,hb,m0,p1,p2,p3,p4⟩
   show Rel cx _ (a.put o.dst v) w'
   have hsz:=hb.size
   let m1:Mp:=fun b=>if id≤b then m0 (b-id) else none
   have hm1:∀b p,m1 b=some p→id≤b∧m0 (b-id)=some p:=by
    intro b p hp
    simp only[m1] at hp
    split at hp
    ·rename_i hh;exact⟨hh,hp⟩
    ·cases hp
   have hm1':∀b,m1 (b+id)=m0 b:=fun b=>by simp [m1]
   have hshut:=h.shut
   have hAimp:∀g,AOf cx (newsOf id (impT 0 res).2++st.heap) (fun b=>(m1 b).or (m b)) g→((g < w.heap.size∧(al=true→AOf cx st.heap m g))∨∃b s,m0 b=some (g,s)):=by
    rintro g (hg | ⟨b,y,s,hy,hs⟩)
    ·exact .inl ⟨Nat.lt_of_lt_of_le (hR.bsmall g hg).1 hR.basele,fun _ => .inl hg⟩
    ·cases hq1:m1 b with
     | some p =>
      simp only[hq1,Option.some_or,Option.some.injEq] at hs
      subst hs
      exact .inr ⟨b-id,s,(hm1 b _ hq1).2⟩
     | none =>
      simp only[hq1,Option.none_or] at hs
      have hdom:=hR.dom b _ hs
      have hy':hlook b st.heap=some y:=by
       rw[hlook_append] at hy
       cases hl:look b (newsOf id (impT 0 res).2) with
       | none=>rwa [hl] at hy
       | some z =>
        obtain⟨i,b',rfl,hi,_⟩:=(look_newsOf _ _ _ _).1 hl
        have:=lt_of_get hi
        exact absurd hdom.1 (hf (id+i) (by omega) (by omega))
      exact .inl ⟨hdom.2.2,fun _ => .inr ⟨b,y,s,hy',hs⟩⟩
   have hmono:∀ {mm mm':Mp} {y:SV} {v:Value},(∀b p,mm b=some p→mm' b=some p)→OneR w' (fun g=>(g < w.heap.size∧(al=true→AOf cx st.heap m g))∨∃b s,m0 b=some (g,s)) mm y v →
     OneR w' (AOf cx (newsOf id (impT 0 res).2++st.heap) (fun b=>(m1 b).or (m b))) mm' y v :=
    fun hm h=>h.mono (fun _ _ _=>rfl) (fun g hg => .inl (hAimp g hg)) (fun _ _ h=>h) hm
   have hR':=hR.imp (m1:=m1) (news:=newsOf id (impT 0 res).2) (al':=(newsOf id (impT 0 res).2).map (·.1)++st.al) hb (fun b hb=>List.mem_append_right _ hb)
    (fun b p hp=>by
     obtain⟨h1,h2⟩:=hm1 b p hp
     obtain⟨h3,h4,h5⟩:=p1 _ _ h2
     exact⟨hf b h1 (by omega),List.mem_append_left _ ((newsOf_keys _ _ _).2 ⟨h1,by omega⟩),h4,h5⟩)
    (fun b b' g s s' h1 h2=>by
     obtain⟨h3,h4⟩:=hm1 b _ h1
     obtain⟨h5,h6⟩:=hm1 b' _ h2
     have:=p2 _ _ g s s' h4 h6
     omega)
    (fun b z hz=>by
     obtain⟨i,b',rfl,hi,rfl⟩:=(look_newsOf _ _ _ _).1 hz
     have hil:=lt_of_get hi
     refine⟨hf _ (by omega) (by omega),List.mem_append_left _ ((newsOf_keys _ _ _).2 ⟨by omega,by omega⟩),b',rfl,?_⟩
     have hbr:=p3 i b' hi
     obtain⟨sz,xs,rfl⟩:=impT_ro 0 res b' (List.mem_of_getElem? hi)
     have hmi:m1 (id+i)=m0 i:=by rw[Nat.add_comm];exact hm1' i
     have hold:m (id+i)=none:=by
      cases hq:m (id+i) with
      | none=>rfl
      | some q=>exact absurd (hR.dom _ q hq).1 (hf (id+i) (by omega) (by omega))
     obtain⟨hpos,⟨q1,q2⟩ | ⟨g,C,e,q1,q2,q3,q4,q5⟩⟩:=hbr
     ·exact⟨hpos,.inl ⟨by show(m1 (id+i)).or (m (id+i))=none;rw[hmi,q1,hold];rfl,q2⟩⟩
     ·exact⟨hpos,.inr ⟨g,C,e,by show(m1 (id+i)).or (m (id+i))=_;rw[hmi,q1];rfl,q2,q3,q4,fun i x j y hx hy=>hmono (fun _ _ h=>h) (q5 i x j y hx hy)⟩⟩)
   refine⟨(fun b=>(m1 b).or (m b)),?_⟩
   unfold St.app
   rw[put_heap]
   refine hR'.put hd fun _=>?_
   obtain⟨_,hsh⟩:=impT_shift (w:=w') (A:=fun g=>(g < w.heap.size∧(al=true→AOf cx st.heap m g))∨∃b s,m0 b=some (g,s)) (m:=m0) (m':=m1) (d:=id) hm1' 0 res hshut
   rw[Nat.zero_add] at hsh
   exact(hsh v p4).mono (fun _ _ _=>rfl) (fun g hg => .inl (hAimp g hg)) (fun _ _ h=>h) (fun b p hp=>by simp [hp])

end
end Go.Sh
