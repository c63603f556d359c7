/- A shadow state changes as the world does: new blocks, stores, results that come in; what a call's contract is. -/
import Derived.Test.YtlfpkjlaajfjnaaSh0
set_option linter.unusedVariables false
set_option linter.unusedSimpArgs false
namespace Go.Sh
open Go.RowKit

abbrev AOf (cx:Cx) (h:Hp) (m:Mp):Nat→Prop:=fun g=>cx.B g∨OwnP h m g

theorem rowSize_lt {w:World} {g n:Nat} (h:rowSize w g=some n):g < w.heap.size:=by
 rcases Nat.lt_or_ge g w.heap.size with h' | h'
 ·exact h'
 ·simp [rowSize,Array.getElem?_eq_none h'] at h

theorem RelM.change {cx:Cx} {m m':Mp} {st:St} {a:Act} {w w':World} {heap':Hp} {al':List Nat} (h:RelM cx m st a w)
  (hb:BelowE cx.E cx.base w w')
  (hro:∀g,¬AOf cx st.heap m g→g < w.heap.size→w'.heap[g]?=w.heap[g]?) (hA:∀g,AOf cx heap' m' g→AOf cx st.heap m g∨w.heap.size≤g)
  (hsz:∀g n,rowSize w g=some n→rowSize w' g=some n) (hm:∀b p,m b=some p→m' b=some p) (hpin:∀b,b < st.nx→m' b=m b)
  (hdom:∀b p,m' b=some p→(b < st.nx∨b ∈ al')∧(cx.base≤p.1∨cx.E p.1)∧p.1 < w'.heap.size)
  (hnx:∀b x,hlook b heap'=some x→b < st.nx∨b ∈ al')
  (hinj:∀b b' x y g s s',hlook b heap'=some x→hlook b' heap'=some y→m' b=some (g,s)→m' b'=some (g,s')→b=b')
  (hp:∀b x,hlook b heap'=some x→BlkR w' (AOf cx heap' m') m' b x):RelM cx m' { st with heap:=heap',al:=al' } a w' where
 below:=h.below.trans hb
 basele:=Nat.le_trans h.basele hb.size
 bsmall:=h.bsmall
 pin:=fun i hi=>⟨(hpin i (h.pin i hi).2).trans (h.pin i hi).1,(h.pin i hi).2⟩
 defs:=h.defs
 size:=h.size
 env:=fun t x hx=>(h.env t x hx).mono hro hA hsz hm
 dom:=hdom
 hnx:=hnx
 inj:=hinj
 hp:=hp

theorem below_sz {B:Nat} {w w':World} (h:Below B w w') (hB:w.heap.size≤B):∀g n,rowSize w g=some n→rowSize w' g=some n:=by
 intro g n hn
 rw[rowSize_of (h.block g (Nat.lt_of_lt_of_le (rowSize_lt hn) hB)),hn]

def Fresh (st:St) (b:Nat):Prop:=¬(b < st.nx∨b ∈ st.al)

theorem hlook_append (b:Nat) (l r:Hp):hlook b (l++r)=match look b l with | some x=>x | none=>hlook b r:=by
 unfold hlook
 rw[look_append]
 cases look b l <;> rfl

theorem RelM.imp {cx:Cx} {m m1:Mp} {st:St} {a:Act} {w w':World} {news:Hp} {al':List Nat} (h:RelM cx m st a w) (hb:Below w.heap.size w w')
  (hal:∀b,b ∈ st.al→b ∈ al')
  (h1:∀b p,m1 b=some p→Fresh st b∧b ∈ al'∧w.heap.size≤p.1∧p.1 < w'.heap.size)
  (h2:∀b b' g s s',m1 b=some (g,s)→m1 b'=some (g,s')→b=b')
  (h3:∀b x,look b news=some x→Fresh st b∧b ∈ al'∧∃y,x=some y∧BlkR w' (AOf cx (news++st.heap) (fun b=>(m1 b).or (m b))) (fun b=>(m1 b).or (m b)) b y) :
  RelM cx (fun b=>(m1 b).or (m b)) { st with heap:=news++st.heap,al:=al' } a w':=by
 have old:∀b p,m b=some p→m1 b=none:=by
  intro b p hp
  cases hq:m1 b with
  | none=>rfl
  | some q=>exact absurd (h.dom b p hp).1 (h1 b q hq).1
 have oldn:∀b p,m b=some p→look b news=none:=by
  intro b p hp
  cases hq:look b news with
  | none=>rfl
  | some q=>exact absurd (h.dom b p hp).1 (h3 b q hq).1
 have hro:∀g,g < w.heap.size→w'.heap[g]?=w.heap[g]?:=fun g hg=>hb.block g hg
 have hsz:=below_sz hb (Nat.le_refl _)
 have hm:∀b p,m b=some p→(m1 b).or (m b)=some p:=fun b p hp=>by rw[old b p hp,hp];rfl
 have hA:∀g,AOf cx (news++st.heap) (fun b=>(m1 b).or (m b)) g→AOf cx st.heap m g∨w.heap.size≤g:=by
  rintro g (hg | ⟨b,x,s,hx,hs⟩)
  ·exact .inl (.inl hg)
  ·cases hq:m1 b with
   | some q =>
    simp only[hq,Option.some_or,Option.some.injEq] at hs
    subst hs
    exact .inr (h1 b _ hq).2.2.1
   | none =>
    simp only[hq,Option.none_or] at hs
    rw[hlook_append,oldn b _ hs] at hx
    exact .inl (.inr ⟨b,x,s,hx,hs⟩)
 refine h.change (.of hb h.basele) (fun g _ hg=>hro g hg) hA hsz hm (fun b hlt=>by
  cases hq:m1 b with
  | none=>rfl
  | some q=>exact absurd (.inl hlt) (h1 b q hq).1) ?_ ?_ ?_ ?_
 ·intro b p hp
  cases hq:m1 b with
  | some q =>
   simp only[hq,Option.some_or,Option.some.injEq] at hp
   subst hp
   obtain⟨_,h5,h6,h7⟩:=h1 b _ hq
   exact⟨.inr h5,.inl (Nat.le_trans h.basele h6),h7⟩
  | none =>
   simp only[hq,Option.none_or] at hp
   obtain⟨h4,h5,h6⟩:=h.dom b p hp
   exact⟨h4.imp id (hal b),h5,Nat.lt_of_lt_of_le h6 hb.size⟩
 ·intro b x hx
  rw[hlook_append] at hx
  cases hq:look b news with
  | some q=>exact .inr (h3 b q hq).2.1
  | none=>rw[hq] at hx;exact(h.hnx b x hx).imp id (hal b)
 ·intro b b' x y g s s' hx hy hs hs'
  cases hq:m1 b with
  | some q =>
   simp only[hq,Option.some_or,Option.some.injEq] at hs
   subst hs
   cases hq':m1 b' with
   | some q' =>
    simp only[hq',Option.some_or,Option.some.injEq] at hs'
    subst hs'
    exact h2 b b' _ _ _ hq hq'
   | none =>
    simp only[hq',Option.none_or] at hs'
    have:=(h1 b _ hq).2.2.1
    have:=(h.dom b' _ hs').2.2
    omega
  | none =>
   simp only[hq,Option.none_or] at hs
   cases hq':m1 b' with
   | some q' =>
    simp only[hq',Option.some_or,Option.some.injEq] at hs'
    subst hs'
    have:=(h1 b' _ hq').2.2.1
    have:=(h.dom b _ hs).2.2
    omega
   | none =>
    simp only[hq',Option.none_or] at hs'
    rw[hlook_append,oldn b _ hs] at hx
    rw[hlook_append,oldn b' _ hs'] at hy
    exact h.inj b b' x y g s s' hx hy hs hs'
 ·intro b x hx
  rw[hlook_append] at hx
  cases hq:look b news with
  | some q =>
   rw[hq] at hx
   obtain⟨_,_,y,e,hy⟩:=h3 b q hq
   rw[e] at hx
   have hx:some y=some x:=hx
   cases hx
   exact hy
  | none =>
   rw[hq] at hx
   have hb1:m1 b=none:=by
    cases hq1:m1 b with
    | none=>rfl
    | some q=>exact absurd (h.hnx b x hx) (h1 b q hq1).1
   refine(h.hp b x hx).mono (by simp [hb1]) (fun g _ hg=>hro g hg) hA hsz hm ?_
   intro g s hs
   exact hro g (h.dom b _ hs).2.2

theorem below_alloc' (w:World) (o:Obj):Below w.heap.size w (w.alloc o):=(Below.refl _ w).alloc (Nat.le_refl _) o

theorem RelM.alloc {cx:Cx} {m:Mp} {st:St} {a:Act} {w:World} {id s:Nat} {x:Blk} (h:RelM cx m st a w) (hf:Fresh st id) (C:Array Value) (e:TypeId)
  (hx:∀(w':World) (A':Nat→Prop) (m':Mp),m' id=some (w.heap.size,s)→w'.heap[w.heap.size]?=some (.cells C e (0,0)) →
   (∀y v,OneR w (AOf cx st.heap m) m y v→OneR w' A' m' y v)→(∀y v,OneR w (AOf cx st.heap m) noMp y v→OneR w' A' noMp y v)→BlkR w' A' m' id x) :
  ∃m',RelM cx m' { st with heap:=(id,some x)::st.heap,al:=id::st.al } a (w.alloc (.cells C e))∧m' id=some (w.heap.size,s)∧rowSize (w.alloc (.cells C e)) w.heap.size=some C.size ∧
   ∀y v,VR w (AOf cx st.heap m) m y v→VR (w.alloc (.cells C e)) (AOf cx ((id,some x)::st.heap) m') m' y v:=by
 have hnew:(w.alloc (.cells C e)).heap[w.heap.size]?=some (.cells C e (0,0)):=heap_alloc_new w _
 have hb:=below_alloc' w (.cells C e)
 have hmid:m id=none:=by
  cases hq:m id with
  | none=>rfl
  | some q=>exact absurd (h.dom id q hq).1 hf
 let m1:Mp:=fun b=>if b=id then some (w.heap.size,s) else none
 have hm1:∀b p,m1 b=some p→b=id∧p=(w.heap.size,s):=by
  intro b p hp
  simp only[m1] at hp
  split at hp
  ·rename_i hh;exact⟨hh,(Option.some.inj hp).symm⟩
  ·cases hp
 have hm:∀b p,m b=some p→(m1 b).or (m b)=some p:=by
  intro b p hp
  have:b ≠ id:=fun hh=>by subst hh;rw[hmid] at hp;cases hp
  simp [m1,this,hp]
 have hA:∀g,AOf cx ([(id,some x)]++st.heap) (fun b=>(m1 b).or (m b)) g→AOf cx st.heap m g∨w.heap.size≤g:=by
  rintro g (hg | ⟨b,y,s',hy,hs⟩)
  ·exact .inl (.inl hg)
  ·by_cases hbi:b=id
   ·simp only[m1,hbi,if_true,Option.some_or,Option.some.injEq,Prod.mk.injEq] at hs
    exact .inr (Nat.le_of_eq hs.1)
   ·simp only[m1,hbi,if_false,Option.none_or] at hs
    rw[hlook_append,look_cons,if_neg hbi] at hy
    exact .inl (.inr ⟨b,y,s',hy,hs⟩)
 have hsz:=below_sz hb (Nat.le_refl _)
 refine⟨fun b=>(m1 b).or (m b),?_,by simp [m1],by unfold rowSize;rw[hnew],?_⟩
 ·refine h.imp (m1:=m1) (news:=[(id,some x)]) hb (fun b hbb=>List.mem_cons_of_mem _ hbb) ?_ ?_ ?_
  ·intro b p hp
   obtain⟨rfl,rfl⟩:=hm1 b p hp
   exact⟨hf,List.mem_cons_self,Nat.le_refl _,by simp⟩
  ·intro b b' g s1 s2 h1 h2
   rw[(hm1 b _ h1).1,(hm1 b' _ h2).1]
  ·intro b y hy
   rw[look_cons] at hy
   split at hy
   ·rename_i hbi
    subst hbi
    simp only[Option.some.injEq] at hy
    refine⟨hf,List.mem_cons_self,x,hy.symm,hx _ _ _ (by simp [m1]) hnew ?_ ?_⟩
    ·exact fun y v hv=>hv.mono (fun g _ hg=>hb.block g hg) hA hsz hm
    ·exact fun y v hv=>hv.mono (fun g _ hg=>hb.block g hg) hA hsz (fun _ _ h=>h)
   ·simp [look] at hy
 ·exact fun y v hv=>hv.mono (fun g _ hg=>hb.block g hg) hA hsz hm

def updRow (w:World) (g:Nat) (o:Obj):World := { w with heap:=w.heap.setIfInBounds g o }

theorem updRow_self (w:World) {g:Nat} {o o':Obj} (h:w.heap[g]?=some o):(updRow w g o').heap[g]?=some o':=by
 have hlt:g < w.heap.size:=by
  rcases Nat.lt_or_ge g w.heap.size with h' | h'
  ·exact h'
  ·simp [Array.getElem?_eq_none h'] at h
 simp [updRow,hlt]
theorem updRow_ne (w:World) {g k:Nat} {o':Obj} (h:k ≠ g):(updRow w g o').heap[k]?=w.heap[k]?:=by
 simp only[updRow]
 rw[Array.getElem?_setIfInBounds_ne (fun e=>h e.symm)]

theorem RelM.upd {cx:Cx} {m:Mp} {st:St} {a:Act} {w:World} {b g s:Nat} {x x':Blk} {C C':Array Value} {e:TypeId} (h:RelM cx m st a w)
  (hl:hlook b st.heap=some x) (hm:m b=some (g,s)) (hg:w.heap[g]?=some (.cells C e (0,0))) (hC:C'.size=C.size)
  (hx:∀(w':World) (A':Nat→Prop),w'.heap[g]?=some (.cells C' e (0,0)) →
   (∀y v,OneR w (AOf cx st.heap m) m y v→OneR w' A' m y v)→(∀y v,OneR w (AOf cx st.heap m) noMp y v→OneR w' A' noMp y v)→BlkR w' A' m b x') :
  RelM cx m { st with heap:=(b,some x')::st.heap } a (updRow w g (.cells C' e (0,0))) ∧
   ∀y v,VR w (AOf cx st.heap m) m y v→VR (updRow w g (.cells C' e (0,0))) (AOf cx ((b,some x')::st.heap) m) m y v:=by
 have hnew:=updRow_self w (o' := .cells C' e (0,0)) hg
 have hro:∀k,¬AOf cx st.heap m k→k < w.heap.size→(updRow w g (.cells C' e (0,0))).heap[k]?=w.heap[k]?:=by
  intro k hk _
  exact updRow_ne w fun hh=>hk (.inr ⟨b,x,s,hl,by rw[hm,hh]⟩)
 have hA:∀k,AOf cx ((b,some x')::st.heap) m k→AOf cx st.heap m k∨w.heap.size≤k:=by
  rintro k (hk | ⟨b',y,s',hy,hs⟩)
  ·exact .inl (.inl hk)
  ·by_cases hb:b'=b
   ·subst hb;exact .inl (.inr ⟨b',x,s',hl,hs⟩)
   ·refine .inl (.inr ⟨b',y,s',?_,hs⟩)
    unfold hlook at hy ⊢
    rwa [look_cons,if_neg hb] at hy
 have hsz:∀k n,rowSize w k=some n→rowSize (updRow w g (.cells C' e (0,0))) k=some n:=by
  intro k n hk
  by_cases hkg:k=g
  ·subst hkg;simp only[rowSize,hg] at hk;simp [rowSize,hnew,hC];simpa using hk
  ·rw[rowSize_of (updRow_ne w hkg)];exact hk
 have hbase:=(h.dom b _ hm).2.1
 refine⟨?_,fun y v hv=>hv.mono hro hA hsz (fun _ _ h=>h)⟩
 refine h.change (heap':=(b,some x')::st.heap) (al':=st.al) ⟨rfl,rfl,rfl,by simp [updRow],fun k hk he=>updRow_ne w (fun e=>by subst e;rcases hbase with h | h;exact absurd h (Nat.not_le_of_lt hk);exact he h),hsz⟩ hro hA hsz (fun _ _ h=>h) (fun _ _=>rfl)
  (fun c p hp=>⟨(h.dom c p hp).1,(h.dom c p hp).2.1,by simpa [updRow] using (h.dom c p hp).2.2⟩) ?_ ?_ ?_
 ·intro c y hy
  by_cases hc:c=b
  ·subst hc;exact(h.dom c _ hm).1
  ·unfold hlook at hy;rw[look_cons,if_neg hc] at hy;exact h.hnx c y hy
 ·intro c c' y y' k s1 s2 h1 h2 h3 h4
  have f:∀c y,hlook c ((b,some x')::st.heap)=some y→∃z,hlook c st.heap=some z:=by
   intro c y hy
   by_cases hc:c=b
   ·subst hc;exact⟨x,hl⟩
   ·unfold hlook at hy ⊢;rw[look_cons,if_neg hc] at hy;exact⟨y,hy⟩
  obtain⟨z,hz⟩:=f c y h1
  obtain⟨z',hz'⟩:=f c' y' h2
  exact h.inj c c' z z' k s1 s2 hz hz' h3 h4
 ·intro c y hy
  by_cases hc:c=b
  ·subst hc
   have:some x'=some y:=by unfold hlook at hy;rw[look_cons,if_pos rfl] at hy;exact hy
   cases this
   exact hx _ _ hnew (fun y v hv=>hv.mono hro hA hsz (fun _ _ h=>h)) (fun y v hv=>hv.mono hro hA hsz (fun _ _ h=>h))
  ·have hy':hlook c st.heap=some y:=by unfold hlook at hy ⊢;rwa [look_cons,if_neg hc] at hy
   refine(h.hp c y hy').mono rfl hro hA hsz (fun _ _ h=>h) ?_
   intro k s' hs
   refine updRow_ne w fun hh=>hc ?_
   subst hh
   exact h.inj c b y x k s' s hy' hl hs hm

theorem RelM.rename {cx:Cx} {m:Mp} {st:St} {a:Act} {w:World} {b id g s:Nat} {x:Blk} (h:RelM cx m st a w) (hf:Fresh st id)
  (hl:hlook b st.heap=some x) (hm:m b=some (g,s)) :
  ∃m',RelM cx m' { st with heap:=(id,some x)::(b,none)::st.heap,al:=id::st.al } a w∧m' id=some (g,s) ∧
   ∀y v,VR w (AOf cx st.heap m) m y v→VR w (AOf cx ((id,some x)::(b,none)::st.heap) m') m' y v:=by
 have hne:b ≠ id:=fun hh=>hf (hh▸(h.dom b _ hm).1)
 have hmid:m id=none:=by
  cases hq:m id with
  | none=>rfl
  | some q=>exact absurd (h.dom id q hq).1 hf
 let m':Mp:=fun c=>if c=id then some (g,s) else m c
 have hm':∀c p,m c=some p→m' c=some p:=by
  intro c p hp
  have:c ≠ id:=fun hh=>by subst hh;rw[hmid] at hp;cases hp
  simp [m',this,hp]
 have look':∀c y,hlook c ((id,some x)::(b,none)::st.heap)=some y→(c=id∧y=x)∨(c ≠ id∧c ≠ b∧hlook c st.heap=some y):=by
  intro c y hy
  by_cases hc:c=id
  ·unfold hlook at hy
   rw[look_cons,if_pos hc] at hy
   exact .inl ⟨hc,(Option.some.inj hy).symm⟩
  ·by_cases hc':c=b
   ·unfold hlook at hy
    rw[look_cons,if_neg hc,look_cons,if_pos hc'] at hy
    cases hy
   ·unfold hlook at hy
    rw[look_cons,if_neg hc,look_cons,if_neg hc'] at hy
    exact .inr ⟨hc,hc',hy⟩
 have hA:∀k,AOf cx ((id,some x)::(b,none)::st.heap) m' k→AOf cx st.heap m k∨w.heap.size≤k:=by
  rintro k (hk | ⟨c,y,s',hy,hs⟩)
  ·exact .inl (.inl hk)
  ·rcases look' c y hy with⟨rfl,rfl⟩ | ⟨h1,h2,h3⟩
   ·simp only[m',if_true,Option.some.injEq,Prod.mk.injEq] at hs
    exact .inl (.inr ⟨b,y,s,hl,by rw[hm,hs.1]⟩)
   ·simp only[m',h1,if_false] at hs
    exact .inl (.inr ⟨c,y,s',h3,hs⟩)
 refine⟨m',?_,by simp [m'],fun y v hv=>hv.mono (fun _ _ _=>rfl) hA (fun _ _ h=>h) hm'⟩
 refine h.change (BelowE.refl _ _ _) (fun _ _ _=>rfl) hA (fun _ _ h=>h) hm' (fun c hlt=>by
  have:c ≠ id:=fun e=>hf (e ▸ .inl hlt)
  simp [m',this]) ?_ ?_ ?_ ?_
 ·intro c p hp
  by_cases hc:c=id
  ·simp only[m',hc,if_true,Option.some.injEq] at hp
   subst hp
   exact⟨.inr (by simp [hc]),(h.dom b _ hm).2⟩
  ·simp only[m',hc,if_false] at hp
   exact⟨(h.dom c p hp).1.imp _root_.id (List.mem_cons_of_mem _),(h.dom c p hp).2⟩
 ·intro c y hy
  rcases look' c y hy with⟨rfl,_⟩ | ⟨_,_,h3⟩
  ·exact .inr List.mem_cons_self
  ·exact(h.hnx c y h3).imp _root_.id (List.mem_cons_of_mem _)
 ·intro c c' y y' k s1 s2 h1 h2 h3 h4
  rcases look' c y h1 with⟨rfl,rfl⟩ | ⟨h5,h6,h7⟩ <;> rcases look' c' y' h2 with⟨rfl,rfl⟩ | ⟨h8,h9,h10⟩
  ·rfl
  ·simp only[m',if_true,Option.some.injEq,Prod.mk.injEq] at h3
   simp only[m',h8,if_false] at h4
   exact absurd (h.inj c' b y' y k s2 s h10 hl h4 (by rw[hm,h3.1])) h9
  ·simp only[m',if_true,Option.some.injEq,Prod.mk.injEq] at h4
   simp only[m',h5,if_false] at h3
   exact absurd (h.inj c b y y' k s1 s h7 hl h3 (by rw[hm,h4.1])) h6
  ·simp only[m',h5,if_false] at h3
   simp only[m',h8,if_false] at h4
   exact h.inj c c' y y' k s1 s2 h7 h10 h3 h4
 ·intro c y hy
  rcases look' c y hy with⟨rfl,rfl⟩ | ⟨h5,h6,h7⟩
  ·have hb:=h.hp b y hl
   cases y with
   | box cs =>
    obtain⟨g',s',C,e,h1,h2,h3,h4⟩:=hb
    rw[hm] at h1
    cases h1
    exact⟨g,s,C,e,by simp [m'],h2,h3,fun j z hz=>(h4 j z hz).mono (fun _ _ _=>rfl) hA (fun _ _ h=>h) hm'⟩
   | arr d sz xs =>
    obtain⟨hp,⟨h1,_⟩ | ⟨g',C,e,h1,h2,h3,h4,h5⟩⟩:=hb
    ·rw[hm] at h1;cases h1
    ·rw[hm] at h1
     cases h1
     refine⟨hp,.inr ⟨g,C,e,by simp [m'],h2,h3,h4,fun i z j y hz hy=>(h5 i z j y hz hy).mono (fun _ _ _=>rfl) hA (fun _ _ h=>h) ?_⟩⟩
     cases d
     ·exact fun _ _ h=>h
     ·exact hm'
   | mpb l =>
    obtain⟨g',s',h1,h2⟩:=hb
    rw[hm] at h1
    cases h1
    exact⟨g,s,by simp [m'],h2⟩
   | iter l r e =>
    obtain⟨g',s',gm,seen,h1,h2,h3,h4,h5⟩:=hb
    rw[hm] at h1
    cases h1
    have hlt:gm < w.heap.size:=by
     rcases Nat.lt_or_ge gm w.heap.size with h | h
     ·exact h
     ·rw[Array.getElem?_eq_none h] at h4
      cases h4
    refine⟨g,s,gm,seen,by simp [m'],h2,fun h6=>?_,h4,h5⟩
    rcases hA _ h6 with h | h
    ·exact h3 h
    ·omega
  ·refine(h.hp c y h7).mono (by simp [m',h5]) (fun _ _ _=>rfl) hA (fun _ _ h=>h) hm' (fun _ _ _=>rfl)

end Go.Sh
