/- The plain law, in parts: Plans, PlanPins, Bound, Bounds, BoundAsks, BoundMost, Prop, PropLaws, Hunt, Search, SearchLaws, Best, Cert, CertMach, CertLaws, Ref15, CertRef, CertAsks. -/
import Derived.Test.YtfgfckgbefnnaaaGreatPCertAsks0
set_option linter.unusedVariables false
set_option linter.unusedSimpArgs false
namespace Go.Px
open Go Go.Sh
theorem aI_lt {α:Type} [Inhabited α] {l m:List α} {i:Nat} (h:i < l.length):aI (l++m) (i:Int)=aI l (i:Int):=by
 unfold aI
 rw[Int.toNat_natCast,List.getD_eq_getElem?_getD,List.getD_eq_getElem?_getD,List.getElem?_append_left h]
theorem aI_last {α:Type} [Inhabited α] {l:List α} {x : α} {i:Nat} (h:i=l.length):aI (l++[x]) (i:Int)=x:=by
 unfold aI
 rw[Int.toNat_natCast,List.getD_eq_getElem?_getD,h,List.getElem?_append_right (Nat.le_refl _),Nat.sub_self]
 rfl
theorem aI_set {α:Type} [Inhabited α] {l:List α} {i j:Nat} {x : α} (h:i < l.length):aI (l.set i x) (j:Int)=if j=i then x else aI l (j:Int):=by
 unfold aI
 rw[Int.toNat_natCast,List.getD_eq_getElem?_getD,List.getD_eq_getElem?_getD]
 split
 ·rename_i hj
  rw[hj,List.getElem?_set_self h]
  rfl
 ·rename_i hj
  rw[List.getElem?_set_ne (fun e=>hj e.symm)]
theorem aI_ext {α:Type} [Inhabited α] {l m:List α} (hl:l.length=m.length) (h:∀i:Nat,i < l.length→aI l (i:Int)=aI m (i:Int)):l=m:=by
 refine List.ext_getElem hl fun i h1 h2=>?_
 have:=h i h1
 unfold aI at this
 rw[Int.toNat_natCast,List.getD_eq_getElem?_getD,List.getD_eq_getElem?_getD,List.getElem?_eq_getElem h1,List.getElem?_eq_getElem h2] at this
 exact this
structure Prob (v:Venue) (L:List Party):Prop where
 may:MayV v
 n1:v.Seats.length≤9
 kl:v.Kills.length≤9
 pl:v.Poles.length≤9
 rad:InP v.Radius 0 24
 l4:L.length≤4
 ps:∀i:Nat,i < L.length→MayP (aI L (i:Int))∧(aI L (i:Int)).Size≤3
theorem Prob.all {v:Venue} {L:List Party} (h:Prob v L):AllMay L:=⟨by have:=h.l4;omega,fun i hi=>(h.ps i hi).1⟩
theorem Prob.small {v:Venue} {L:List Party} (h:Prob v L) {k:Nat} (h1:9 < k) (h2:k≤4294967290):Small k v:=⟨by have:=h.n1;omega,by have:=h.kl;omega,by have:=h.pl;omega,h2,by omega⟩
theorem Prob.inn {v:Venue} {L:List Party} (h:Prob v L) {P:List Pin} (hP:PinOK v L P):InOK v L P:=⟨h.may,hP,h.all⟩
theorem small_l0 (k:Nat) (l:List Int):∀(d n i:Nat) (w:List Party),i+d=4→d < n→w.length=i→(∀j:Nat,j < w.length→MayP (aI w (j:Int))∧(aI w (j:Int)).Size≤3)→∃o,law12_Small_l0 k l n w (i:Int)=some o∧o.length≤4∧∀j:Nat,j < o.length→MayP (aI o (j:Int))∧(aI o (j:Int)).Size≤3
 | d,0,i,w,_,h,_,_=>absurd h (by omega)
 | 0,n+1,i,w,hi,_,hw,hp=>by
  rw[law12_Small_l0]
  by_cases h:(i:Int) < (l.length:Int)
  ·rw[condD h,condN (by omega)]
   exact⟨w,rfl,by omega,hp⟩
  ·rw[condN h]
   exact⟨w,rfl,by omega,hp⟩
 | d+1,n+1,i,w,hi,hd,hw,hp=>by
  rw[law12_Small_l0]
  by_cases h:(i:Int) < (l.length:Int)
  ·obtain⟨u0,u1⟩:=um (aI l (i:Int)) 3 (by omega)
   rw[condD h,condD (by omega),bindS (idx_aI (by omega) h),wr_id (x:=(IntKind.u64.wrap (aI l (i:Int))).tmod 3) (by omega) (by omega),wr_id (x:=1+(IntKind.u64.wrap (aI l (i:Int))).tmod 3) (by omega) (by omega),wr_succ (by omega)]
   generalize (IntKind.u64.wrap (aI l (i:Int))).tmod 3=q at u0 u1
   generalize ((IntKind.u64.wrap ((IntKind.u64.wrap (aI l (i:Int))).tdiv 3)).tmod 4)=q2
   have hgo:∀p:Party,MayP p∧p.Size≤3→∃o,(gd (decide (w.length+([p]).length≤4294967296)) (law12_Small_l0 k l n (w++[p]) ((i+1:Nat):Int)))=some o∧o.length≤4∧∀j:Nat,j < o.length→MayP (aI o (j:Int))∧(aI o (j:Int)).Size≤3:=fun p hpp=>by
    rw[gdD (by simp only[List.length_singleton];omega)]
    refine small_l0 k l d n (i+1) (w++[p]) (by omega) (by omega) (by simp [hw]) fun j hj=>?_
    rw[List.length_append,List.length_singleton] at hj
    by_cases hjw:j < w.length
    ·rw[aI_lt hjw];exact hp j hjw
    ·rw[aI_last (by omega)];exact hpp
   by_cases h2:q2=0
   ·rw[condD h2,bindS rfl]
    by_cases h3:1 < 1+q
    ·rw[condD h3]
     exact hgo _ ⟨⟨by simp only;omega,by simp only;omega,by simp only;omega,by simp only;omega,by simp only;omega⟩,by simp only;omega⟩
    ·rw[condN h3]
     exact hgo _ ⟨⟨by simp only;omega,by simp only;omega,by simp only;omega,by simp only;omega,by simp only;omega⟩,by simp only;omega⟩
   ·rw[condN h2,bindS rfl,cond_false]
    exact hgo _ ⟨⟨by simp only;omega,by simp only;omega,by simp only;omega,by simp only;omega,by simp only;omega⟩,by simp only;omega⟩
  ·rw[condN h]
   exact⟨w,rfl,by omega,hp⟩
theorem law12_Small_eq {k:Nat} (l m:List Int) (hk:100≤k):∃v L,law12_Small k l m=some (v,L)∧Prob v L:=by
 obtain⟨v,e,hv⟩:=law3_Make_eq k l 9 (by omega) (by omega) (by omega)
 have e:law3_Make k l 9=some v:=e
 obtain⟨L,eL,hL1,hL2⟩:=small_l0 k m 4 k 0 [] (by omega) (by omega) rfl (fun j hj=>absurd hj (by simp))
 have eL:law12_Small_l0 k m k [] 0=some L:=eL
 have h6:∃b,(cond (decide (0 < (m.length:Int))) (Option.bind (idx m 0) fun y10=>some (!decide ((y10.tmod 3)=0))) (some false))=some b:=by
  by_cases h:0 < (m.length:Int)
  ·rw[condD h,bindS (idx_aI (by omega) h)];exact⟨_,rfl⟩
  ·rw[condN h];exact⟨_,rfl⟩
 obtain⟨b,eb⟩:=h6
 have h13:∃r,cond b (some (v.Radius.tmod 12)) (some v.Radius)=some r∧InP r 0 24:=by
  have hr:=hv.rad
  cases b
  ·exact⟨_,rfl,hr⟩
  ·refine⟨_,rfl,Int.tmod_nonneg _ hr.1,?_⟩
   have:=Int.tmod_lt_of_pos v.Radius (b:=12) (by omega)
   omega
 obtain⟨r,er,hr⟩:=h13
 unfold law12_Small
 rw[bindS e,bindS eb,bindS er,bindS eL]
 have hM:=hv.may
 exact⟨_,_,rfl,⟨hM.seats,hM.n0,hM.n1,hM.gap,by show InP r 0 1048576;omega,hM.kills,hM.k1,hM.poles,hM.p1⟩,hv.n1,hv.kl,hv.pl,hr,hL1,hL2⟩
theorem pins_ok {k:Nat} {v:Venue} {L:List Party} {P:List Pin} (hv:Small k v) (hP:PinOK v L P):∀i:Nat,i < P.length→okI (aI P (i:Int)).First:=fun i hi=>by
 have h:=hP i hi
 obtain⟨_,h1,h2,h3⟩:=plB_in hv h.pl
 have:=hv.hs
 have:=hv.b
 exact⟨by omega,by omega⟩
theorem PlanP.ok {k:Nat} {v:Venue} {L:List Party} {P:List Pin} {r:List Int} (hv:Small k v) (h:PlanP v L P r):∀i:Nat,i < r.length→okI (aI r (i:Int)):=fun i hi=>by
 by_cases h1:aI r (i:Int) = -1
 ·rw[h1];exact⟨by omega,by omega⟩
 ·obtain⟨_,h1,h2,h3⟩:=plB_in hv ((h.at_ i hi).pl h1)
  have:=hv.hs
  have:=hv.b
  exact⟨by omega,by omega⟩
theorem pins_l0 {k:Nat} {v:Venue} {L:List Party} (hp:Prob v L) (hk:1000 < k) (hb:k≤4294967290):∀(d n i:Nat) (P:List Pin) (m:Int),i+d=L.length→d < n→P.length≤i→PinOK v L P→∃P',law12_Pins_l0 k v L n P m (i:Int)=some P'∧P'.length≤4∧PinOK v L P'
 | d,0,i,P,m,_,h,_,_=>absurd h (by omega)
 | 0,n+1,i,P,m,hi,_,hl,hP=>by
  have:=hp.l4
  rw[law12_Pins_l0,condN (by omega)]
  exact⟨P,rfl,by omega,hP⟩
 | d+1,n+1,i,P,m,hi,hd,hl,hP=>by
  have h4:=hp.l4
  have hv:=hp.small (k:=k) (by omega) hb
  have hal:=allV_len v (aI L (i:Int))
  have hn:=hp.n1
  have hrec:∀(P:List Pin) (m:Int),P.length≤i+1→PinOK v L P→∃P',law12_Pins_l0 k v L n P m ((i+1:Nat):Int)=some P'∧P'.length≤4∧PinOK v L P':=fun P m a b=>pins_l0 hp hk hb d n (i+1) P m (by omega) (by omega) a b
  rw[law12_Pins_l0,condD (by omega),bindS (idx_aI (by omega) (by omega)),bindS (ref6_AllPlaces_eq hv hk _),wr_succ (by omega)]
  by_cases h1:m.tmod 3=0
  ·rw[condNT h1]
   by_cases h2:((allV v (aI L (i:Int))).length:Int)=0
   ·rw[condD h2]
    exact hrec _ _ (by omega) hP
   ·have hw:IntKind.u64.wrap ((allV v (aI L (i:Int))).length:Int)=((allV v (aI L (i:Int))).length:Int):=wu_id (by omega) (by omega)
    obtain⟨u0,u1⟩:=um (m.tdiv 3) ((allV v (aI L (i:Int))).length:Int) (by omega)
    rw[condN h2,gdD (by simp only[List.length_nil];omega),gdD (by rw[hw];omega),hw,bindS (idx_aI u0 u1),List.nil_append]
    generalize aI (allV v (aI L (i:Int))) ((IntKind.u64.wrap (m.tdiv 3)).tmod ((allV v (aI L (i:Int))).length:Int))=f
    have hql:(P++[Pin.mk (i:Int) f]).length=P.length+1:=by simp
    rw[gdD (by simp only[List.length_singleton];omega),bindS (ref6_MayPins_eq hv hk (by omega) (by omega))]
    rcases Classical.em (InOK v L (P++[Pin.mk (i:Int) f])) with hq | hq
    ·rw[dB_T hq,cond_true]
     exact hrec _ _ (by omega) hq.2.1
    ·rw[dB_F hq,cond_false]
     exact hrec _ _ (by omega) hP
  ·rw[condNF h1]
   exact hrec _ _ (by omega) hP
theorem law12_Pins_eq {k:Nat} {v:Venue} {L:List Party} (hp:Prob v L) (hk:1000 < k) (hb:k≤4294967290) (m:Int):∃P,law12_Pins k v L m=some P∧P.length≤4∧PinOK v L P:=by
 have:=hp.l4
 obtain⟨P,e,h⟩:=pins_l0 hp hk hb L.length k 0 [] (IntKind.u64.wrap m) (by omega) (by omega) (by simp) PinOK_nil
 have e:law12_Pins_l0 k v L k [] (IntKind.u64.wrap m) 0=some P:=e
 unfold law12_Pins
 rw[bindS e]
 exact⟨P,rfl,h⟩
/- all plans -/
theorem allV_mem {k:Nat} {v:Venue} (hv:Small k v) {p:Party} {s:Int} : s ∈ allV v p ↔ plB v p s=true:=by
 unfold allV plB
 cases mayB v
 ·simp
 ·rw[cond_true,Bool.true_and]
  unfold allL
  rw[List.mem_map]
  constructor
  ·rintro ⟨a,h,rfl⟩
   exact(List.mem_filter.1 h).2
  ·intro h
   have hN:=hv.hs
   have hb:=hv.b
   obtain⟨h1,h2,h3,_⟩:=placeB_pos (by omega) h
   refine⟨s.toNat,List.mem_filter.2 ⟨List.mem_range.2 (by omega),?_⟩,by omega⟩
   rw[show((s.toNat:Nat):Int)=s by omega]
   exact h
noncomputable def nextP (v:Venue) (L:List Party) (i:Nat) (r:List Int):List (List Int):=(allV v (aI L (i:Int))++[-1]).map (fun s=>r++[s])
noncomputable def allP (v:Venue) (L:List Party):Nat→List (List Int)
 | 0=>[[]]
 | i+1=>(allP v L i).flatMap (nextP v L i)
theorem nextP_len {v:Venue} {L:List Party} {i:Nat} {r:List Int} : (nextP v L i r).length≤v.Seats.length+1:=by
 unfold nextP
 rw[List.length_map,List.length_append,List.length_singleton]
 have:=allV_len v (aI L (i:Int))
 omega
theorem flat_len {α:Type} {f : α→List α} {c:Nat} : ∀ {l:List α},(∀x,x ∈ l→(f x).length≤c)→(l.flatMap f).length≤c * l.length
 | [],_=>by simp
 | x::l,h=>by
  rw[List.flatMap_cons,List.length_append,List.length_cons,Nat.mul_succ]
  have:=h x (by simp)
  have:=flat_len (l:=l) (fun y hy=>h y (by simp [hy]))
  omega
theorem allP_len {v:Venue} {L:List Party} (hn:v.Seats.length≤9):∀i:Nat,(allP v L i).length≤10 ^ i
 | 0=>by simp [allP]
 | i+1=>by
  have:=allP_len hn (L:=L) i
  have h2:=flat_len (f:=nextP v L i) (c:=10) (l:=allP v L i) (fun x _=>by have:=nextP_len (v:=v) (L:=L) (i:=i) (r:=x);omega)
  rw[allP,Nat.pow_succ]
  omega
theorem mem_allP {v:Venue} {L:List Party} : ∀ {i:Nat} {r:List Int},r ∈ allP v L i ↔ r.length=i∧∀j:Nat,j < i→aI r (j:Int) = -1∨aI r (j:Int) ∈ allV v (aI L (j:Int))
 | 0,r=>by
  rw[allP,List.mem_singleton]
  constructor
  ·rintro rfl;exact⟨rfl,fun j hj=>absurd hj (by omega)⟩
  ·rintro ⟨h,_⟩;exact List.length_eq_zero_iff.1 h
 | i+1,r=>by
  rw[allP,List.mem_flatMap]
  constructor
  ·rintro ⟨r0,h0,h1⟩
   obtain⟨a,b⟩:=mem_allP.1 h0
   unfold nextP at h1
   obtain⟨s,hs,rfl⟩:=List.mem_map.1 h1
   refine⟨by rw[List.length_append,List.length_singleton,a],fun j hj=>?_⟩
   by_cases h:j < i
   ·rw[aI_lt (by omega)];exact b j h
   ·obtain rfl:j=i:=by omega
    rw[aI_last a.symm]
    rcases List.mem_append.1 hs with h | h
    ·exact .inr h
    ·exact .inl (List.mem_singleton.1 h)
  ·rintro ⟨h1,h2⟩
   have hr:r=r.take i++[aI r (i:Int)]:=by
    refine aI_ext (by rw[List.length_append,List.length_take,List.length_singleton];omega) fun j hj=>?_
    by_cases h:j < i
    ·rw[aI_lt (by rw[List.length_take];omega)]
     unfold aI
     rw[Int.toNat_natCast,List.getD_eq_getElem?_getD,List.getD_eq_getElem?_getD,List.getElem?_take_of_lt h]
    ·obtain rfl:j=i:=by omega
     rw[aI_last (by rw[List.length_take];omega)]
   refine⟨r.take i,mem_allP.2 ⟨by rw[List.length_take];omega,fun j hj=>?_⟩,?_⟩
   ·have:=h2 j (by omega)
    have e:aI (r.take i) (j:Int)=aI r (j:Int):=by
     unfold aI
     rw[Int.toNat_natCast,List.getD_eq_getElem?_getD,List.getD_eq_getElem?_getD,List.getElem?_take_of_lt hj]
    rw[e]
    exact this
   ·unfold nextP
    refine List.mem_map.2 ⟨aI r (i:Int),?_,hr.symm⟩
    rcases h2 i (by omega) with h | h
    ·rw[h];simp
    ·exact List.mem_append_left _ h
theorem PlanP.mem {k:Nat} {v:Venue} {L:List Party} {P:List Pin} {r:List Int} (hv:Small k v) (h:PlanP v L P r):r ∈ allP v L L.length:=by
 refine mem_allP.2 ⟨h.len,fun j hj=>?_⟩
 rw[allV_mem hv]
 by_cases h1:aI r (j:Int) = -1
 ·exact .inl h1
 ·exact .inr ((h.at_ j (by rw[h.len];exact hj)).pl h1)
theorem range_map_aI {α β:Type} [Inhabited α] {l:List α} {f : α → β} : (List.range l.length).map (fun j:Nat=>f (aI l (j:Int)))=l.map f:=by
 refine List.ext_getElem (by simp) fun i h1 h2=>?_
 simp at h1 h2 ⊢
 unfold aI
 rw[Int.toNat_natCast,List.getD_eq_getElem?_getD,List.getElem?_eq_getElem h1]
 rfl
theorem filter_yes {α:Type} (l:List α):l.filter (fun _=>true)=l:=List.filter_eq_self.2 (fun _ _=>rfl)
theorem plans_l12 {k:Nat} {M:List Int} {A:List (List Int)} {j:Nat} (hj:j < A.length) (hr:(aI A (j:Int)).length≤1000) (hM:M.length≤10000) (hk:20000≤k) (w:List (List Int)) (hw:w.length≤4294000000) :
  ref15_Plans_l12 k M A (j:Int) k w 0=some (w++(M++[-1]).map (fun s=>aI A (j:Int)++[s])):=by
 have hl:(([]++M)++([(-1)]:List Int)).length=M.length+1:=by simp
 have e:=gather0 (f:=fun n a i=>ref15_Plans_l12 k M A (j:Int) n a i) (len:=M.length+1) (c:=4294000000) (fun _=>true) (fun s:Nat=>aI A (j:Int)++[aI (M++[-1]) (s:Int)])
  (fun n i w hi hw=>by
   show ref15_Plans_l12 k M A (j:Int) (n+1) w (i:Int)=ref15_Plans_l12 k M A (j:Int) n _ _
   rw[ref15_Plans_l12,condD (by rw[hl];omega),bindS (idx_aI (by omega) (by omega)),gdD (by simp only[List.length_nil];omega),bindS (idx_aI (by omega) (by rw[hl];omega)),List.nil_append,List.nil_append,gdD (by simp only[List.length_singleton];omega),gdD (by simp only[List.length_singleton];omega),wr_succ (by omega),if_pos rfl])
  (fun n w=>by show ref15_Plans_l12 k M A (j:Int) (n+1) w _=_;rw[ref15_Plans_l12,condN (by rw[hl];omega)])
  (k:=k) (by omega) w hw
 have e:ref15_Plans_l12 k M A (j:Int) k w 0=_:=e
 rw[e,filter_yes]
 have h:=range_map_aI (l:=M++[-1]) (f:=fun s=>aI A (j:Int)++[s])
 rw[List.length_append,List.length_singleton] at h
 rw[h]
theorem drop_aI {α:Type} [Inhabited α] {l:List α} {i:Nat} (h:i < l.length):l.drop i=aI l (i:Int)::l.drop (i+1):=by
 unfold aI
 rw[Int.toNat_natCast,List.getD_eq_getElem?_getD,List.getElem?_eq_getElem h]
 exact List.drop_eq_getElem_cons h
section
variable {k:Nat} {v:Venue} {L:List Party}
theorem plans_l11 (hp:Prob v L) (hk:20000≤k) (hb:k≤4294967290) {i:Nat} (hi:i < L.length) {A:List (List Int)} (hA:A.length≤10000) (hr:∀r,r ∈ A→r.length≤1000):∀(d n j:Nat) (w:List (List Int)),j+d=A.length→d < n→w.length≤10 * j →
  ref15_Plans_l11 k v L A (i:Int) n w (j:Int)=some (w++(A.drop j).flatMap (nextP v L i))
 | d,0,j,w,_,h,_=>absurd h (by omega)
 | 0,n+1,j,w,hj,_,hw=>by
  rw[ref15_Plans_l11,condN (by omega),List.drop_eq_nil_of_le (by omega)]
  simp
 | d+1,n+1,j,w,hj,hd,hw=>by
  have hv:=hp.small (k:=k) (by omega) hb
  have hal:=allV_len v (aI L (i:Int))
  have hn:=hp.n1
  have hnl:=nextP_len (v:=v) (L:=L) (i:=i) (r:=aI A (j:Int))
  rw[ref15_Plans_l11,condD (by omega),bindS (idx_aI (by omega) (by omega)),bindS (ref6_AllPlaces_eq hv (by omega) _),gdD (by simp only[List.length_nil];omega),gdD (by simp only[List.nil_append,List.length_singleton];omega),bindS (plans_l12 (by omega) (hr _ (aI_mem (by omega) (by omega))) (by omega) hk w (by omega)),wr_succ (by omega)]
  have h:=plans_l11 hp hk hb hi hA hr d n (j+1) (w++nextP v L i (aI A (j:Int))) (by omega) (by omega) (by rw[List.length_append];omega)
  rw[drop_aI (l:=A) (i:=j) (by omega),List.flatMap_cons,← List.append_assoc]
  exact h
theorem plans_l8 (hp:Prob v L) (hk:20000≤k) (hb:k≤4294967290):∀(d n i:Nat),i+d=L.length→d < n→ref15_Plans_l8 k v L n (allP v L i) (i:Int)=some (allP v L L.length)
 | d,0,i,_,h=>absurd h (by omega)
 | 0,n+1,i,hi,_=>by
  rw[ref15_Plans_l8,condN (by omega),show i=L.length by omega]
 | d+1,n+1,i,hi,hd=>by
  have h4:=hp.l4
  have hA:=allP_len hp.n1 (L:=L) i
  have hA2:(10:Nat) ^ i≤10 ^ 4:=Nat.pow_le_pow_right (by omega) (by omega)
  have e:=plans_l11 hp hk hb (i:=i) (by omega) (A:=allP v L i) (by omega) (fun r hr=>by rw[(mem_allP.1 hr).1];omega) (allP v L i).length k 0 [] (by omega) (by omega) (by simp)
  have e:ref15_Plans_l11 k v L (allP v L i) (i:Int) k [] 0=_:=e
  rw[ref15_Plans_l8,condD (by omega),bindS e,wr_succ (by omega),List.drop_zero,List.nil_append]
  exact plans_l8 hp hk hb d n (i+1) (by omega) (by omega)
theorem ref15_Plans_eq (hp:Prob v L) (hk:20000≤k) (hb:k≤4294967290) {P:List Pin} (hP:P.length≤4):∃R,ref15_Plans k v L P=some R∧(∀r,r ∈ R ↔ PlanP v L P r)∧R.length≤10000:=by
 have h4:=hp.l4
 have hv:=hp.small (k:=k) (by omega) hb
 unfold ref15_Plans
 rw[bindS (ref6_MayPins_eq hv (by omega) (by omega) (by omega))]
 rcases Classical.em (InOK v L P) with h | h
 ·have e:=plans_l8 hp hk hb L.length k 0 (by omega) (by omega)
  have e:ref15_Plans_l8 k v L k [[]] 0=_:=e
  have hA:=allP_len hp.n1 (L:=L) L.length
  have hA2:(10:Nat) ^ L.length≤10 ^ 4:=Nat.pow_le_pow_right (by omega) (by omega)
  rw[dB_T h,cNT,bindS e]
  generalize hAd:allP v L L.length=A at hA
  have e2:=gather0 (f:=fun n a i=>ref15_Plans_l13 k v L P A n a i) (len:=A.length) (c:=0) (fun j:Nat=>dB (PlanP v L P (aI A (j:Int)))) (fun j:Nat=>aI A (j:Int))
   (fun n i w hi hw=>by
    show ref15_Plans_l13 k v L P A (n+1) w (i:Int)=ref15_Plans_l13 k v L P A n _ _
    rw[ref15_Plans_l13,condD (by omega),bindS (idx_aI (by omega) (by omega)),bindS (ref6_MayPlan_eq hv (by omega) (by omega) (by omega)),wr_succ (by omega)]
    cases dB (PlanP v L P (aI A (i:Int)))
    ·rw[cond_false,if_neg (by simp)]
    ·rw[cond_true,bindS (idx_aI (by omega) (by omega)),gdD (by simp only[List.length_singleton];omega),if_pos rfl])
   (fun n w=>by show ref15_Plans_l13 k v L P A (n+1) w _=_;rw[ref15_Plans_l13,condN (by omega)])
   (k:=k) (by omega) [] (by simp)
  have e2:ref15_Plans_l13 k v L P A k [] 0=_:=e2
  rw[bindS e2,List.nil_append]
  refine⟨_,rfl,fun r=>?_,?_⟩
  ·rw[List.mem_map]
   constructor
   ·rintro ⟨j,hj,rfl⟩
    exact dB_iff.1 (List.mem_filter.1 hj).2
   ·intro hr
    have hm:=hr.mem hv
    rw[hAd] at hm
    obtain⟨j,hj,e⟩:=mem_aI hm
    exact⟨j,List.mem_filter.2 ⟨List.mem_range.2 hj,by rw[e];exact dB_T hr⟩,e⟩
  ·rw[List.length_map]
   have:=List.length_filter_le (fun j:Nat=>dB (PlanP v L P (aI A (j:Int)))) (List.range A.length)
   rw[List.length_range] at this
   omega
 ·rw[dB_F h,cNF]
  refine⟨[],rfl,fun r=>?_,by simp⟩
  constructor
  ·intro hr;cases hr
  ·intro hr;exact absurd hr.inn h
/- persons -/
def seatN (L:List Party) (r:List Int):Nat→Int
 | 0=>0
 | n+1=>seatN L r n+if 0≤aI r (n:Int) then (aI L (n:Int)).Size else 0
theorem seatN_bd (hA:AllMay L) {r:List Int} : ∀ {n:Nat},n≤L.length→0≤seatN L r n∧seatN L r n≤8 * n
 | 0,_=>by rw[seatN];omega
 | n+1,h=>by
  have:=seatN_bd hA (r:=r) (n:=n) (by omega)
  have:=hA.2 n (by omega)
  rw[seatN]
  split <;> omega
theorem plan_Seated_l0_eq (hA:AllMay L) {r:List Int} (hr:r.length≤L.length):∀(d n i:Nat),i+d=r.length→d < n→plan_Seated_l0 k L r n (seatN L r i) (i:Int)=some (seatN L r r.length)
 | d,0,i,_,h=>absurd h (by omega)
 | 0,n+1,i,hi,_=>by
  rw[plan_Seated_l0,condN (by omega),show i=r.length by omega]
 | d+1,n+1,i,hi,hd=>by
  have h1:=hA.1
  have h2:=hA.2 i (by omega)
  have h3:=seatN_bd hA (r:=r) (n:=i) (by omega)
  have ih:=plan_Seated_l0_eq hA hr d n (i+1) (by omega) (by omega)
  rw[plan_Seated_l0,condD (by omega),bindS (idx_aI (by omega) (by omega)),wr_succ (by omega)]
  rw[seatN] at ih
  by_cases h:0≤aI r (i:Int)
  ·rw[if_pos h] at ih
   rw[condD h,bindS (idx_aI (by omega) (by omega)),wr_id (by omega) (by omega),ih]
  ·rw[if_neg h,Int.add_zero] at ih
   rw[condN h,ih]
theorem ref6_Seated_l0_eq (hA:AllMay L) {r:List Int} (hr:r.length≤L.length):∀(d n i:Nat),i+d=r.length→d < n→ref6_Seated_l0 k L r n (seatN L r i) (i:Int)=some (seatN L r r.length)
 | d,0,i,_,h=>absurd h (by omega)
 | 0,n+1,i,hi,_=>by
  rw[ref6_Seated_l0,condN (by omega),show i=r.length by omega]
 | d+1,n+1,i,hi,hd=>by
  have h1:=hA.1
  have h2:=hA.2 i (by omega)
  have h3:=seatN_bd hA (r:=r) (n:=i) (by omega)
  have ih:=ref6_Seated_l0_eq hA hr d n (i+1) (by omega) (by omega)
  rw[ref6_Seated_l0,condD (by omega),bindS (idx_aI (by omega) (by omega)),wr_succ (by omega)]
  rw[seatN] at ih
  by_cases h:0≤aI r (i:Int)
  ·rw[if_pos h] at ih
   rw[condD h,bindS (idx_aI (by omega) (by omega)),wr_id (by omega) (by omega),ih]
  ·rw[if_neg h,Int.add_zero] at ih
   rw[condN h,ih]
theorem plan_Seated_eq (hA:AllMay L) (hk:1000 < k) (hb:k≤4294967290) {r:List Int} (hr:r.length=L.length):plan_Seated k L r=some (seatN L r L.length):=by
 have h1:=hA.1
 unfold plan_Seated
 rw[condNT (by omega),bindS (party_All_eq (by omega) hb),dB_T hA,bindS rfl,cNT]
 have e:=plan_Seated_l0_eq (k:=k) hA (r:=r) (by omega) r.length k 0 (by omega) (by omega)
 have e:plan_Seated_l0 k L r k 0 0=_:=e
 rw[bindS e,hr]
theorem ref6_Seated_eq (hA:AllMay L) (hk:1000 < k) (hb:k≤4294967290) {r:List Int} (hr:r.length=L.length):ref6_Seated k L r=some (seatN L r L.length):=by
 have h1:=hA.1
 unfold ref6_Seated
 rw[condNT (by omega),bindS (ref6_AllParties_eq (by omega) hb),dB_T hA,bindS rfl,cNT]
 have e:=ref6_Seated_l0_eq (k:=k) hA (r:=r) (by omega) r.length k 0 (by omega) (by omega)
 have e:ref6_Seated_l0 k L r k 0 0=_:=e
 rw[bindS e,hr]
end
end Go.Px

set_option linter.unusedVariables false
set_option linter.unusedSimpArgs false
namespace Go.Px
open Go Go.Sh
section
variable {v:Venue} {L:List Party}
theorem PlanP.pins {P:List Pin} {r:List Int} (h:PlanP v L [] r) (hP:PinOK v L P) (hh:∀i:Nat,i < P.length→aI r (aI P (i:Int)).Party=(aI P (i:Int)).First):PlanP v L P r :=
 ⟨⟨h.inn.1,hP,h.inn.2.2⟩,h.len,fun i hi=>⟨fun f hf=>by
  obtain⟨j,h1,h2,h3⟩:=pinAt_some hf
  have:=hh j h1
  rw[h2] at this
  rw[this,h3],(h.at_ i hi).pl,(h.at_ i hi).ap⟩⟩
theorem PlanP.held {P:List Pin} {r:List Int} (h:PlanP v L P r) {i:Nat} (hi:i < P.length):aI r (aI P (i:Int)).Party=(aI P (i:Int)).First:=by
 have hG:=h.inn.2.1 i hi
 have h1:=hG.lo
 have h2:=hG.hi
 have:=(h.at_ (aI P (i:Int)).Party.toNat (by rw[h.len];omega)).pin (aI P (i:Int)).First
 rw[show(((aI P (i:Int)).Party.toNat:Nat):Int)=(aI P (i:Int)).Party by omega] at this
 exact this (pinAt_get h.inn.2.1.rise hi)
def pinPlan (L:List Party) (P:List Pin):List Int:=(List.range L.length).map (fun i:Nat=>(pinAt P (i:Int)).getD (-1))
theorem pinPlan_at {P:List Pin} {i:Nat} (h:i < L.length):aI (pinPlan L P) (i:Int)=(pinAt P (i:Int)).getD (-1):=by
 unfold aI pinPlan
 rw[Int.toNat_natCast,List.getD_eq_getElem?_getD,List.getElem?_map,List.getElem?_range h]
 rfl
theorem pinPlan_P {k:Nat} (hv:Small k v) {P:List Pin} (hI:InOK v L P):PlanP v L P (pinPlan L P):=by
 have hl:(pinPlan L P).length=L.length:=by unfold pinPlan;simp
 have hP:=hI.2.1
 have hsome:∀i:Nat,i < L.length→¬aI (pinPlan L P) (i:Int) = -1→∃j,j < P.length∧(aI P (j:Int)).Party=(i:Int)∧(aI P (j:Int)).First=aI (pinPlan L P) (i:Int):=fun i hi h=>by
  rw[pinPlan_at hi] at h ⊢
  cases hp:pinAt P (i:Int) with
  | none=>rw[hp] at h;exact absurd rfl h
  | some f=>exact pinAt_some hp
 refine⟨hI,hl,fun i hi=>⟨fun f hf=>?_,fun h=>?_,fun h j hj hn=>?_⟩⟩
 ·rw[pinPlan_at (by omega),hf];rfl
 ·obtain⟨j,h1,h2,h3⟩:=hsome i (by omega) h
  have:=(hP j h1).pl
  rw[h2,h3] at this
  exact this
 ·obtain⟨a,a1,a2,a3⟩:=hsome i (by omega) h
  obtain⟨b,b1,b2,b3⟩:=hsome j (by omega) hn
  have hba:b < a:=by
   rcases Nat.lt_trichotomy b a with h | h | h
   ·exact h
   ·rw[h] at b2;omega
   ·have:=hP.rise a b h b1;omega
  have:=(hP a a1).ap b hba
  rw[a2,a3,b2,b3] at this
  exact this
end
end Go.Px

set_option linter.unusedVariables false
set_option linter.unusedSimpArgs false
namespace Go.Px
open Go Go.Sh
theorem mset_new {l:List (Int×Int)} {x v:Int} : mget l x=none→mset l x v=l++[(x,v)]:=by
 induction l with
 | nil=>intro _;rfl
 | cons p l ih =>
  intro h
  rw[mget_cons] at h
  split at h
  ·cases h
  ·rename_i hne
   rw[mset,if_neg hne,ih h]
   rfl
theorem pmN_mem {P:List Pin} (hP:RiseP P) {p:Int×Int} : ∀ {n:Nat},n≤P.length→(p ∈ pmN P n ↔ ∃i:Nat,i < n∧p=((aI P (i:Int)).Party,(aI P (i:Int)).First))
 | 0,_=>by
  rw[pmN]
  exact⟨fun h=>(by cases h),fun⟨i,h,_⟩=>absurd h (by omega)⟩
 | n+1,hn=>by
  have hnone:mget (pmN P n) (aI P (n:Int)).Party=none:=by
   cases hm:mget (pmN P n) (aI P (n:Int)).Party with
   | none=>rfl
   | some f =>
    obtain⟨i,h1,h2,_⟩:=pmN_some hm
    have:=hP i n h1 (by omega)
    omega
  rw[pmN,mset_new hnone,List.mem_append,pmN_mem hP (by omega),List.mem_singleton]
  constructor
  ·rintro (⟨i,h1,h2⟩ | h)
   ·exact⟨i,by omega,h2⟩
   ·exact⟨n,by omega,h⟩
  ·rintro ⟨i,h1,h2⟩
   rcases Nat.lt_or_ge i n with q | q
   ·exact .inl ⟨i,q,h2⟩
   ·right;rw[h2,show i=n by omega]
structure StateP (v:Venue) (L:List Party) (P:List Pin) (r:List Int):Prop where
 inn:InOK v L P
 len:r.length≤L.length
 at_:∀i,i < r.length→OkAt v L P r i
structure FreeP (v:Venue) (L:List Party) (P:List Pin) (r:List Int) (i:Int) (s:Int):Prop where
 plan:∀j:Nat,j < r.length→¬aI r (j:Int) = -1→aptB v (aI L i) s (aI L (j:Int)) (aI r (j:Int))=true
 pins:∀j:Nat,j < P.length→¬(aI P (j:Int)).Party=i→aptB v (aI L i) s (aI L (aI P (j:Int)).Party) (aI P (j:Int)).First=true
noncomputable def openL (v:Venue) (L:List Party) (P:List Pin) (r:List Int) (i:Int):List Int:=(allV v (aI L i)).filter fun s=>dB (FreeP v L P r i s∧∀f,pinAt P i=some f→s=f)
section
variable {k:Nat} {v:Venue} {L:List Party} {P:List Pin} {r:List Int}
theorem StateP.ge (hv:Small k v) (h:StateP v L P r) {j:Nat} (hj:j < r.length) (hn:¬aI r (j:Int) = -1):0≤aI r (j:Int):=(plB_in hv ((h.at_ j hj).pl hn)).2.2.1
/- the strike-out -/
theorem filter_one {l:List Int} (hl:l.Pairwise (· < ·)) {p:Int→Bool} {f:Int} (hf:f ∈ l) (hp:∀s,p s=true→s=f):l.filter p=if p f=true then [f] else []:=by
 induction l with
 | nil=>cases hf
 | cons x l ih =>
  rw[List.pairwise_cons] at hl
  rw[List.filter_cons]
  rcases List.mem_cons.1 hf with rfl | h
  ·have hn:l.filter p=[]:=List.filter_eq_nil_iff.2 fun s hs h=>by
    have:=hl.1 s hs
    have:=hp s h
    omega
   rw[hn]
  ·have hx:¬p x=true:=fun h'=>by
    have:=hl.1 f h
    have:=hp x h'
    omega
   rw[if_neg hx]
   exact ih hl.2 h
theorem allV_sorted (p:Party):(allV v p).Pairwise (· < ·):=by
 unfold allV
 cases mayB v
 ·exact List.Pairwise.nil
 ·exact allL_sorted _ _ _
theorem ref6_free_eq (hv:Small k v) (hk:1000 < k) (hst:StateP v L P r) (hrk:r.length < k) (hPk:P.length < k) {i:Int} (hi:0≤i∧i < L.length) (s:Int):ref6_Hall_free k (Ref6Hall.mk v (usL v)) L r P i s=some (dB (FreeP v L P r i s)):=by
 have hb:=hv.b
 have hM:=hst.inn.1
 have hrl:=hst.len
 unfold ref6_Hall_free
 have e:=scanB (F:=fun n j=>ref6_Hall_free_l0 k (Ref6Hall.mk v (usL v)) L r i s n (j:Int)) (len:=r.length) (k:=k) (fun j=>¬aI r (j:Int) = -1→aptB v (aI L i) s (aI L (j:Int)) (aI r (j:Int))=true) (t:=()) (r:=false)
  (fun n j hj _ hg=>by
   rw[ref6_Hall_free_l0,condD (by omega),bindS (idx_aI (by omega) (by omega)),wr_succ (by omega)]
   by_cases h1:aI r (j:Int) = -1
   ·rw[condNT h1]
   ·rw[condNF h1,bindS (idx_aI hi.1 hi.2),bindS (idx_aI (l:=L) (by omega) (by omega)),bindS (idx_aI (by omega) (by omega)),bindS (rhall_Apart hv hM hk _ _ _ _),hg h1,cNT])
  (fun n j hj _ hg=>by
   obtain⟨h1,h2⟩:=Classical.not_imp.1 hg
   rw[ref6_Hall_free_l0,condD (by omega),bindS (idx_aI (by omega) (by omega)),condNF h1,bindS (idx_aI hi.1 hi.2),bindS (idx_aI (l:=L) (by omega) (by omega)),bindS (idx_aI (by omega) (by omega)),bindS (rhall_Apart hv hM hk _ _ _ _),Bool.eq_false_iff.2 h2,cNF])
  (fun n _=>by
   rw[ref6_Hall_free_l0,condN (by omega)]) hrk
 have e:ref6_Hall_free_l0 k (Ref6Hall.mk v (usL v)) L r i s k 0=_:=e
 have e1:=scanB (F:=fun n j=>ref6_Hall_free_l1 k (Ref6Hall.mk v (usL v)) L P i s n (j:Int)) (len:=P.length) (k:=k) (fun j=>¬(aI P (j:Int)).Party=i→aptB v (aI L i) s (aI L (aI P (j:Int)).Party) (aI P (j:Int)).First=true) (t:=()) (r:=false)
  (fun n j hj _ hg=>by
   have hG:=hst.inn.2.1 j hj
   rw[ref6_Hall_free_l1,condD (by omega),bindS (idx_aI (by omega) (by omega)),wr_succ (by omega)]
   by_cases h1:(aI P (j:Int)).Party=i
   ·rw[condNT h1]
   ·rw[condNF h1,bindS (idx_aI hi.1 hi.2),bindS (idx_aI hG.lo hG.hi),bindS (idx_aI (by omega) (by omega)),bindS (rhall_Apart hv hM hk _ _ _ _),hg h1,cNT])
  (fun n j hj _ hg=>by
   have hG:=hst.inn.2.1 j hj
   obtain⟨h1,h2⟩:=Classical.not_imp.1 hg
   rw[ref6_Hall_free_l1,condD (by omega),bindS (idx_aI (by omega) (by omega)),condNF h1,bindS (idx_aI hi.1 hi.2),bindS (idx_aI hG.lo hG.hi),bindS (idx_aI (by omega) (by omega)),bindS (rhall_Apart hv hM hk _ _ _ _),Bool.eq_false_iff.2 h2,cNF])
  (fun n _=>by
   rw[ref6_Hall_free_l1,condN (by omega)]) hPk
 have e1:ref6_Hall_free_l1 k (Ref6Hall.mk v (usL v)) L P i s k 0=_:=e1
 rw[bindS e]
 rcases Classical.em (∀j:Nat,j < r.length→¬aI r (j:Int) = -1→aptB v (aI L i) s (aI L (j:Int)) (aI r (j:Int))=true) with h | h
 ·rw[dB_T h,if_pos rfl,elim_go,bindS e1]
  rcases Classical.em (∀j:Nat,j < P.length→¬(aI P (j:Int)).Party=i→aptB v (aI L i) s (aI L (aI P (j:Int)).Party) (aI P (j:Int)).First=true) with h' | h'
  ·rw[dB_T h',if_pos rfl,elim_go,dB_T ⟨h,h'⟩]
  ·rw[dB_F h',if_neg (by simp),elim_rt,dB_F (fun x=>h' x.pins)]
 ·rw[dB_F h,if_neg (by simp),elim_rt,dB_F (fun x=>h x.plan)]
theorem ref6_Open_eq (hv:Small k v) (hk:1000 < k) (hst:StateP v L P r) (hrk:r.length < k) (hPk:P.length < k) {i:Int} (hi:0≤i∧i < L.length):ref6_Hall_Open k (Ref6Hall.mk v (usL v)) L r P i=some (openL v L P r i):=by
 have hb:=hv.b
 have hM:=hst.inn.1
 have hall:ref6_Hall_All k (Ref6Hall.mk v (usL v)) (aI L i)=some (allV v (aI L i)):=by
  rw[ref6_Hall_All_eq _ hv.hs hb hk]
  unfold allV
  rw[mayB_iff.2 hM]
  rfl
 have hal:=allV_len v (aI L i)
 have hN:=hv.hs
 unfold ref6_Hall_Open openL
 rw[bindS (idx_aI hi.1 hi.2),bindS hall,bindS (ref6_pinned_eq hst.inn.2.1.rise hPk hb i)]
 generalize allV v (aI L i)=A at hal
 have e2:=gather0 (f:=fun n a j=>ref6_Hall_Open_l0 k (Ref6Hall.mk v (usL v)) L r P i A ((pinAt P i).getD (-1),(pinAt P i).isSome) n a j) (len:=A.length) (c:=0) (fun j:Nat=>dB (FreeP v L P r i (aI A (j:Int))∧∀f,pinAt P i=some f→aI A (j:Int)=f)) (fun j:Nat=>aI A (j:Int))
   (fun n j w hj hw=>by
    show ref6_Hall_Open_l0 k (Ref6Hall.mk v (usL v)) L r P i A ((pinAt P i).getD (-1),(pinAt P i).isSome) (n+1) w (j:Int)=ref6_Hall_Open_l0 k (Ref6Hall.mk v (usL v)) L r P i A ((pinAt P i).getD (-1),(pinAt P i).isSome) n _ _
    have hc:(Option.bind (idx A (j:Int)) fun y74=>Option.bind (ref6_Hall_free k (Ref6Hall.mk v (usL v)) L r P i y74) fun r76=>cond r76 (cond (!(pinAt P i).isSome) (some true) (Option.bind (idx A (j:Int)) fun y80=>some (decide (y80=(pinAt P i).getD (-1))))) (some false))=some (dB (FreeP v L P r i (aI A (j:Int))∧∀f,pinAt P i=some f→aI A (j:Int)=f)):=by
     rw[bindS (idx_aI (by omega) (by omega)),bindS (ref6_free_eq hv hk hst hrk hPk hi _),bindS (idx_aI (by omega) (by omega))]
     rcases Classical.em (FreeP v L P r i (aI A (j:Int))) with h | h
     ·rw[dB_T h,cond_true]
      cases pinAt P i with
      | none=>rw[Option.isSome_none,cNF,dB_T ⟨h,fun f e=>by cases e⟩]
      | some f =>
       rw[Option.isSome_some,cNT,Option.getD_some]
       by_cases h2:aI A (j:Int)=f
       ·rw[decide_eq_true h2,dB_T ⟨h,fun f' e=>by cases e;exact h2⟩]
       ·rw[decide_eq_false h2,dB_F (fun x=>h2 (x.2 f rfl))]
     ·rw[dB_F h,cond_false,dB_F (fun x=>h x.1)]
    rw[ref6_Hall_Open_l0,condD (by omega),wr_succ (by omega)]
    simp only
    rw[bindS hc]
    cases dB (FreeP v L P r i (aI A (j:Int))∧∀f,pinAt P i=some f→aI A (j:Int)=f)
    ·rw[cond_false,if_neg (by simp)]
    ·rw[cond_true,bindS (idx_aI (by omega) (by omega)),gdD (by simp only[List.length_singleton];omega),if_pos rfl])
   (fun n w=>by show ref6_Hall_Open_l0 k (Ref6Hall.mk v (usL v)) L r P i A ((pinAt P i).getD (-1),(pinAt P i).isSome) (n+1) w _=_;rw[ref6_Hall_Open_l0,condN (by omega)])
   (k:=k) (by omega) [] (by simp)
 have e2:ref6_Hall_Open_l0 k (Ref6Hall.mk v (usL v)) L r P i A ((pinAt P i).getD (-1),(pinAt P i).isSome) k [] 0=_:=e2
 rw[bindS e2,List.nil_append]
 congr 1
 have h:=range_map_aI (l:=A) (f:=fun s=>s)
 have h2:((List.range A.length).map (fun j:Nat=>aI A (j:Int)))=A:=by rw[h,List.map_id']
 have h3:∀(p:Int→Bool) (R:List Nat),(R.filter (fun j:Nat=>p (aI A (j:Int)))).map (fun j:Nat=>aI A (j:Int))=(R.map (fun j:Nat=>aI A (j:Int))).filter p:=fun p R=>by
  rw[List.filter_map]
  rfl
 rw[h3 (fun s=>dB (FreeP v L P r i s∧∀f,pinAt P i=some f→s=f)),h2]
end
end Go.Px

set_option linter.unusedVariables false
set_option linter.unusedSimpArgs false
namespace Go.Px
open Go Go.Sh
theorem aI_take {α:Type} [Inhabited α] {l:List α} {n:Nat} {x:Int} (h0:0≤x) (h:x < (n:Int)):aI (l.take n) x=aI l x:=by
 unfold aI
 rw[List.getD_eq_getElem?_getD,List.getD_eq_getElem?_getD,List.getElem?_take_of_lt (by omega)]
section
variable {k:Nat} {v:Venue} {L:List Party} {P:List Pin} {r:List Int}
def NextP (v:Venue) (L:List Party) (P:List Pin) (r:List Int) (x:Int):Prop:=StateP v L P r∧r.length < L.length∧((x = -1∧pinAt P (r.length:Int)=none)∨x ∈ openL v L P r (r.length:Int))
theorem openL_mem (hv:Small k v) {i s:Int} : s ∈ openL v L P r i ↔ plB v (aI L i) s=true∧FreeP v L P r i s∧∀f,pinAt P i=some f→s=f:=by
 unfold openL
 rw[List.mem_filter,allV_mem hv,dB_iff]
theorem openL_ge (hv:Small k v) {i s:Int} (h:s ∈ openL v L P r i):0≤s:=(plB_in hv ((openL_mem hv).1 h).1).2.2.1
theorem openL_len {i:Int} : (openL v L P r i).length≤v.Seats.length:=by
 unfold openL
 have:=List.length_filter_le (fun s=>dB (FreeP v L P r i s∧∀f,pinAt P i=some f→s=f)) (allV v (aI L i))
 have:=allV_len v (aI L i)
 omega
open Classical in
noncomputable def mostN (v:Venue) (L:List Party) (P:List Pin) (r:List Int):Nat→Int
 | 0=>0
 | n+1=>mostN v L P r n+if (n < r.length∧0≤aI r (n:Int))∨(r.length≤n∧0 < (openL v L P r (n:Int)).length) then (aI L (n:Int)).Size else 0
theorem mostN_bd (hA:AllMay L):∀ {n:Nat},n≤L.length→0≤mostN v L P r n∧mostN v L P r n≤8 * n
 | 0,_=>by rw[mostN];omega
 | n+1,h=>by
  have:=mostN_bd hA (n:=n) (by omega)
  have:=hA.2 n (by omega)
  rw[mostN]
  split <;> omega
theorem most_gen (hst:StateP v L P r) {f:Nat→Int→Int→Option Int} {op:Int→Option (List Int)} (hop:∀i:Int,0≤i∧i < L.length→op i=some (openL v L P r i))
  (hs:∀(n i:Nat) (c:Int),i < L.length→f (n+1) c (i:Int)=Option.bind (cond (decide ((i:Int) < (r.length:Int))) (Option.bind (idx r (i:Int)) fun y=>cond (decide (0≤y)) (some true) (cond (decide ((r.length:Int)≤(i:Int))) (Option.bind (op (i:Int)) fun q=>some (decide (0 < (q.length:Int)))) (some false))) (cond (decide ((r.length:Int)≤(i:Int))) (Option.bind (op (i:Int)) fun q=>some (decide (0 < (q.length:Int)))) (some false))) fun o=>cond o (f n (wr (c+(aI L (i:Int)).Size)) ((i+1:Nat):Int)) (f n c ((i+1:Nat):Int)))
  (he:∀n c,f (n+1) c (L.length:Int)=some c):∀d n i:Nat,i+d=L.length→d < n→f n (mostN v L P r i) (i:Int)=some (mostN v L P r L.length)
 | d,0,i,_,h=>absurd h (by omega)
 | 0,n+1,i,hi,_=>by rw[show i=L.length by omega,he]
 | d+1,n+1,i,hi,hd=>by
  have hA:=hst.inn.2.2
  have h1:=hA.1
  have h2:=hA.2 i (by omega)
  have h3:=mostN_bd (v:=v) (P:=P) (r:=r) hA (n:=i) (by omega)
  have ih:=most_gen hst hop hs he d n (i+1) (by omega) (by omega)
  rw[mostN] at ih
  rw[hs n i _ (by omega)]
  by_cases hr:(i:Int) < (r.length:Int)
  ·rw[condD hr,bindS (idx_aI (by omega) hr)]
   by_cases h:0≤aI r (i:Int)
   ·rw[if_pos (.inl ⟨by omega,h⟩)] at ih
    rw[condD h,bindS rfl,cond_true,wr_id (by omega) (by omega),ih]
   ·rw[if_neg (fun x=>by rcases x with x | x;exact h x.2;have:=x.1;omega),Int.add_zero] at ih
    rw[condN h,condN (by omega),bindS rfl,cond_false,ih]
  ·rw[condN hr,condD (by omega),bindS (hop _ ⟨by omega,by omega⟩),bindS rfl]
   by_cases h:0 < (openL v L P r (i:Int)).length
   ·rw[if_pos (.inr ⟨by omega,h⟩)] at ih
    rw[condD (by omega),wr_id (by omega) (by omega),ih]
   ·rw[if_neg (fun x=>by rcases x with x | x;have:=x.1;omega;exact h x.2),Int.add_zero] at ih
    rw[condN (by omega),ih]
end
end Go.Px

set_option linter.unusedVariables false
set_option linter.unusedSimpArgs false
namespace Go.Px
open Go Go.Sh
end Go.Px

set_option linter.unusedVariables false
set_option linter.unusedSimpArgs false
namespace Go.Px
open Go Go.Sh
section
variable {k:Nat} {v:Venue} {L:List Party} {P:List Pin} {r:List Int}
theorem PlanP.state (h:PlanP v L P r) {n:Nat} : StateP v L P (r.take n):=by
 have hl:=h.len
 refine⟨h.inn,by rw[List.length_take];omega,fun i hi=>?_⟩
 rw[List.length_take] at hi
 have hG:=h.at_ i (by omega)
 refine⟨fun f hf=>by rw[aI_take (by omega) (by omega)];exact hG.pin f hf,fun hn=>?_,fun hn j hj hnj=>?_⟩
 ·rw[aI_take (by omega) (by omega)] at hn ⊢
  exact hG.pl hn
 ·rw[aI_take (by omega) (by omega)] at hn hnj ⊢
  rw[aI_take (by omega) (by omega)]
  exact hG.ap hn j hj hnj
theorem PlanP.open (hv:Small k v) (h:PlanP v L P r) {n i:Nat} (hn:n≤i) (hi:i < L.length) (h1:¬aI r (i:Int) = -1):aI r (i:Int) ∈ openL v L P (r.take n) (i:Int):=by
 have hl:=h.len
 have hG:=h.at_ i (by omega)
 refine(openL_mem hv).2 ⟨hG.pl h1,⟨fun j hj hnj=>?_,fun j hj hne=>?_⟩,hG.pin⟩
 ·rw[List.length_take] at hj
  rw[aI_take (by omega) (by omega)] at hnj ⊢
  exact hG.ap h1 j (by omega) hnj
 ·have hPG:=h.inn.2.1 j hj
  have hh:=h.held hj
  have h0:=hPG.lo
  have h2:=hPG.hi
  have h3:=(plB_in hv hPG.pl).2.2.1
  obtain⟨x,hx⟩:=Int.eq_ofNat_of_zero_le h0
  have hx:(aI P (j:Int)).Party=(x:Int):=hx
  rw[hx] at hh hne h2 ⊢
  rw[← hh] at h3 ⊢
  rcases Nat.lt_or_ge x i with q | q
  ·exact hG.ap h1 x q (by omega)
  ·rw[aptB_symm]
   exact(h.at_ x (by omega)).ap (by omega) i (by omega) h1
theorem PlanP.next (hv:Small k v) (h:PlanP v L P r) {i:Nat} (hi:i < L.length):NextP v L P (r.take i) (aI r (i:Int)):=by
 have hl:=h.len
 have ht:(r.take i).length=i:=by rw[List.length_take];omega
 refine⟨h.state,by omega,?_⟩
 rw[ht]
 by_cases h1:aI r (i:Int) = -1
 ·refine .inl ⟨h1,?_⟩
  cases hp:pinAt P (i:Int) with
  | none=>rfl
  | some f =>
   have:=(h.at_ i (by omega)).pin f hp
   obtain⟨j,hj,e1,e2⟩:=pinAt_some hp
   have:=(plB_in hv (h.inn.2.1 j hj).pl).2.2.1
   omega
 ·exact .inr (h.open hv (Nat.le_refl i) hi h1)
theorem most_full (hl:r.length=L.length):∀m:Nat,m≤L.length→mostN v L P r m=seatN L r m
 | 0,_=>rfl
 | m+1,hm=>by
  rw[mostN,seatN,most_full hl m (by omega)]
  by_cases h:0≤aI r (m:Int)
  ·rw[if_pos h,if_pos (.inl ⟨by omega,h⟩)]
  ·rw[if_neg h,if_neg (fun x=>by rcases x with x | x;exact h x.2;omega)]
structure BCtx (v:Venue) (L:List Party) (P:List Pin):Prop where
 pr:Prob v L
 l4:P.length≤4
 ok:PinOK v L P
theorem BCtx.small (h:BCtx v L P):Small 20000 v:=h.pr.small (by omega) (by omega)
theorem StateP.ok (hv:Small k v) (h:StateP v L P r):∀i:Nat,i < r.length→okI (aI r (i:Int)):=fun i hi=>by
 by_cases h1:aI r (i:Int) = -1
 ·rw[h1];exact⟨by omega,by omega⟩
 ·obtain⟨_,h1,h2,h3⟩:=plB_in hv ((h.at_ i hi).pl h1)
  have:=hv.hs
  have:=hv.b
  exact⟨by omega,by omega⟩
end
end Go.Px

set_option linter.unusedVariables false
set_option linter.unusedSimpArgs false
namespace Go.Px
open Go Go.Sh
noncomputable def domL (v:Venue) (L:List Party) (P:List Pin) (r:List Int) (i:Nat):List Int:=if i < r.length then (if aI r (i:Int) = -1 then [] else [aI r (i:Int)]) else openL v L P r (i:Int)
noncomputable def lvl (v:Venue) (L:List Party) (P:List Pin) (r:List Int):List (List Int):=(List.range L.length).map (domL v L P r)
noncomputable def lvsL (v:Venue) (L:List Party) (P:List Pin) (r:List Int):List (List (List Int)):=(List.range (r.length+1)).map (fun m=>lvl v L P (r.take m))
noncomputable def setOf (v:Venue) (L:List Party) (P:List Pin):PlanSet:=PlanSet.mk (PlaceHall.mk v (usL v)) L (pmN P P.length)
noncomputable def mkP (v:Venue) (L:List Party) (P:List Pin) (r:List Int):PropProp:=PropProp.mk (setOf v L P) (lvsL v L P r) r
theorem map_range_at {α:Type} [Inhabited α] {f:Nat → α} {n i:Nat} (h:i < n):aI ((List.range n).map f) (i:Int)=f i:=by
 unfold aI
 rw[Int.toNat_natCast,List.getD_eq_getElem?_getD,List.getElem?_map,List.getElem?_range h]
 rfl
section
variable {k:Nat} {v:Venue} {L:List Party} {P:List Pin} {r:List Int}
theorem lvl_len:(lvl v L P r).length=L.length:=by unfold lvl;simp
theorem lvl_at {i:Nat} (h:i < L.length):aI (lvl v L P r) (i:Int)=domL v L P r i:=map_range_at h
theorem lvsL_len:(lvsL v L P r).length=r.length+1:=by unfold lvsL;simp
theorem lvsL_at {m:Nat} (h:m≤r.length):aI (lvsL v L P r) (m:Int)=lvl v L P (r.take m):=map_range_at (by omega)
theorem lvsL_snoc {x:Int} : lvsL v L P (r++[x])=lvsL v L P r++[lvl v L P (r++[x])]:=by
 unfold lvsL
 rw[List.length_append,List.length_singleton,List.range_succ,List.map_append]
 congr 1
 ·refine List.map_congr_left fun m hm=>?_
  have:=List.mem_range.1 hm
  rw[List.take_append_of_le_length (by omega)]
 ·simp only[List.map_cons,List.map_nil]
  rw[List.take_of_length_le (by simp)]
theorem domL_pl (hv:Small k v) (hst:StateP v L P r) {i:Nat} (hi:i < L.length) {s:Int} (h:s ∈ domL v L P r i):plB v (aI L (i:Int)) s=true:=by
 unfold domL at h
 split at h
 ·rename_i hir
  split at h
  ·cases h
  ·rename_i hn
   rw[List.mem_singleton] at h
   rw[h]
   exact(hst.at_ i hir).pl hn
 ·exact((openL_mem hv).1 h).1
theorem domL_len {i:Nat} (hn:1≤v.Seats.length):(domL v L P r i).length≤v.Seats.length:=by
 unfold domL
 split
 ·split
  ·simp
  ·simp;omega
 ·exact openL_len
theorem prop_apart_eq (hv:Small k v) (hM:MayV v) (hk:1000 < k) {M:List (Int×Int)} {l:List Int} {i j f:Int} (hi:0≤i∧i < L.length) (hj:0≤j∧j < L.length) (hl:l.length < k) (hs:∀s,s ∈ l→plB v (aI L i) s=true) (hf:plB v (aI L j) f=true) :
  prop_apart k (PlanSet.mk (PlaceHall.mk v (usL v)) L M) l i j f=some (l.filter (fun s=>aptB v (aI L i) s (aI L j) f)):=by
 have hb:=hv.b
 unfold prop_apart
 have e2:=gather0 (f:=fun n a q=>prop_apart_l0 k (PlanSet.mk (PlaceHall.mk v (usL v)) L M) l i j f n a q) (len:=l.length) (c:=0) (fun q:Nat=>aptB v (aI L i) (aI l (q:Int)) (aI L j) f) (fun q:Nat=>aI l (q:Int))
  (fun n q w hq hw=>by
   show prop_apart_l0 k (PlanSet.mk (PlaceHall.mk v (usL v)) L M) l i j f (n+1) w (q:Int)=prop_apart_l0 k (PlanSet.mk (PlaceHall.mk v (usL v)) L M) l i j f n _ _
   rw[prop_apart_l0]
   simp only
   rw[condD (by omega),bindS (idx_aI (by omega) (by omega)),bindS (idx_aI hi.1 hi.2),bindS (idx_aI hj.1 hj.2),bindS (hall_Apart hv hM hk (hs _ (aI_mem (by omega) (by omega))) hf),wr_succ (by omega)]
   cases aptB v (aI L i) (aI l (q:Int)) (aI L j) f
   ·rw[cond_false,if_neg (by simp)]
   ·rw[cond_true,gdD (by simp only[List.length_singleton];omega),if_pos rfl])
  (fun n w=>by show prop_apart_l0 k (PlanSet.mk (PlaceHall.mk v (usL v)) L M) l i j f (n+1) w _=_;rw[prop_apart_l0,condN (by omega)])
  (k:=k) hl [] (by simp)
 have e2:prop_apart_l0 k (PlanSet.mk (PlaceHall.mk v (usL v)) L M) l i j f k [] 0=_:=e2
 rw[bindS e2,List.nil_append]
 congr 1
 have h2:((List.range l.length).map (fun j:Nat=>aI l (j:Int)))=l:=by rw[range_map_aI (l:=l) (f:=fun s=>s),List.map_id']
 have h3:∀(p:Int→Bool) (R:List Nat),(R.filter (fun j:Nat=>p (aI l (j:Int)))).map (fun j:Nat=>aI l (j:Int))=(R.map (fun j:Nat=>aI l (j:Int))).filter p:=fun p R=>by
  rw[List.filter_map]
  rfl
 rw[h3 (fun s=>aptB v (aI L i) s (aI L j) f),h2]
theorem mrun_set {i:Nat} {w:List (List Int)} {good:Int×Int→Int→Bool} {step:Int×Int→List (List Int)→Option (Ex (List (List Int)) (List (List Int)))} {fin:List (List Int)→Option (List (List Int))} (hf:∀u,fin u=some u) {A0:List Int} :
  ∀(σ:List (Int×Int)) (A:List Int),(∀s,s ∈ A→s ∈ A0)→A.length≤A0.length→(∀p,p ∈ σ→∀B:List Int,(∀s,s ∈ B→s ∈ A0)→B.length≤A0.length→step p (w.set i B)=some (.go (w.set i (B.filter (good p)))))→mrun step fin σ (w.set i A)=some (w.set i (A.filter fun s => σ.all fun p=>good p s))
 | [],A,_,_,_=>by
  rw[mrun,hf]
  congr 2
  exact(List.filter_eq_self.2 fun _ _=>rfl).symm
 | p :: σ,A,hA,hl,h=>by
  rw[mrun,h p (by simp) A hA hl]
  have hl2:=List.length_filter_le (good p) A
  have ih:=mrun_set hf σ (A.filter (good p)) (fun s hs=>hA s (List.mem_filter.1 hs).1) (by omega) (fun q hq=>h q (by simp [hq]))
  show mrun step fin σ (w.set i (A.filter (good p)))=_
  rw[ih,List.filter_filter]
  congr 2
  refine List.filter_congr fun s _=>?_
  rw[List.all_cons,Bool.and_comm]
theorem prop_New_l2_eq (hv:Small k v) (hk:1000 < k) (hI:InOK v L P) (hL:L.length < k) {b:Bool} : prop_New_l2 k L (setOf v L P,b) k (List.replicate L.length []) 0=some (lvl v L P []):=by
 have hb:=hv.b
 have hM:=hI.1
 have hN:=hv.hs
 have hlen:=hI.2.2.1
 have e:=fill0 (f:=fun n w i=>prop_New_l2 k L (setOf v L P,b) n w i) (len:=L.length) (domL v L P [])
  (fun n i w hi hw=>by
   show prop_New_l2 k L (setOf v L P,b) (n+1) w (i:Int)=prop_New_l2 k L (setOf v L P,b) n _ _
   have hmg:mget (setOf v L P).Pins (i:Int)=pinAt P (i:Int):=rfl
   have hdom:domL v L P [] i=openL v L P [] (i:Int):=by unfold domL;rw[if_neg (by simp)]
   rw[prop_New_l2]
   simp only
   rw[condD (by omega),hmg,wr_succ (by omega),hdom,Int.toNat_natCast]
   cases hp:pinAt P (i:Int) with
   | some f =>
    obtain⟨j,hj,h1,h2⟩:=pinAt_some hp
    have hG:=hI.2.1 j hj
    have hpl:=hG.pl
    rw[h1,h2] at hpl
    have hmem:f ∈ openL v L P [] (i:Int):=(openL_mem hv).2 ⟨hpl,⟨fun q hq=>absurd hq (by simp),fun q hq hne=>by
     rcases Nat.lt_trichotomy q j with x | x | x
     ·have:=hG.ap q x
      rw[h1,h2] at this
      exact this
     ·subst x;exact absurd h1 hne
     ·have:=(hI.2.1 q hq).ap j x
      rw[h1,h2,aptB_symm] at this
      exact this⟩,fun f' e=>by rw[hp] at e;cases e;rfl⟩
    have hone:openL v L P [] (i:Int)=[f]:=by
     have h:=(openL_mem hv).1 hmem
     unfold openL
     rw[filter_one (allV_sorted _) (f:=f) ((allV_mem hv).2 hpl) (fun s hs=>(dB_iff.1 hs).2 f hp),if_pos (dB_T ⟨h.2.1,h.2.2⟩)]
    rw[Option.isSome_some,cond_true,bindS (idx_aI (l:=w) (by omega) (by omega)),Option.getD_some,hone]
   | none =>
    have hall:place_Hall_All k (setOf v L P).H (aI L (i:Int))=some (allV v (aI L (i:Int))):=by
     rw[show(setOf v L P).H=PlaceHall.mk v (usL v) from rfl,place_Hall_All_eq _ hv.hs hb hk]
     unfold allV
     rw[mayB_iff.2 hM]
     rfl
    have hal:=allV_len v (aI L (i:Int))
    rw[Option.isSome_none,cond_false,bindS (idx_aI (l:=L) (by omega) (by omega)),bindS hall,bindS (idx_aI (l:=w) (by omega) (by omega))]
    have hst:∀p,p ∈ pmN P P.length→∀B:List Int,(∀s,s ∈ B→s ∈ allV v (aI L (i:Int)))→B.length≤(allV v (aI L (i:Int))).length→prop_New_l3_st k (setOf v L P,b) (i:Int) p (w.set i B)=some (.go (w.set i (B.filter (fun s=>aptB v (aI L (i:Int)) s (aI L p.1) p.2)))):=fun p hp' B hB hBl=>by
     obtain⟨j,hj,rfl⟩:=(pmN_mem hI.2.1.rise (Nat.le_refl _)).1 hp'
     have hG:=hI.2.1 j hj
     have hg:idx (w.set i B) (i:Int)=some B:=by
      rw[idx_aI (by omega) (by rw[List.length_set];omega),aI_set (by omega),if_pos rfl]
     unfold prop_New_l3_st
     have ea:prop_apart k (setOf v L P) B (i:Int) (aI P (j:Int)).Party (aI P (j:Int)).First=_:=prop_apart_eq (M:=pmN P P.length) hv hM hk ⟨by omega,by omega⟩ ⟨hG.lo,hG.hi⟩ (by omega) (fun s hs=>(allV_mem hv).1 (hB s hs)) hG.pl
     simp only
     rw[bindS hg,bindS ea,bindS hg,Int.toNat_natCast,List.set_set]
    have hmr:prop_New_l3 k (setOf v L P,b) (i:Int) (setOf v L P).Pins (w.set i (allV v (aI L (i:Int))))=some (w.set i (openL v L P [] (i:Int))):=by
     unfold prop_New_l3
     refine mrange_of fun τ hτ=>?_
     refine(mrun_set (step:=fun p u=>prop_New_l3_st k (setOf v L P,b) (i:Int) p u) (fin:=fun u=>prop_New_l3_fin k (setOf v L P,b) (i:Int) u) (fun u=>rfl) τ (allV v (aI L (i:Int))) (fun s h=>h) (Nat.le_refl _) (fun p hp'=>hst p (hτ.mem_iff.1 hp'))).trans ?_
     congr 2
     unfold openL
     refine List.filter_congr fun s hs=>?_
     rw[Bool.eq_iff_iff,List.all_eq_true,dB_iff]
     constructor
     ·intro h
      refine⟨⟨fun q hq=>absurd hq (by simp),fun q hq hne=>?_⟩,fun f e=>by rw[hp] at e;cases e⟩
      exact h ((aI P (q:Int)).Party,(aI P (q:Int)).First) (hτ.mem_iff.2 ((pmN_mem hI.2.1.rise (Nat.le_refl _)).2 ⟨q,hq,rfl⟩))
     ·intro h p hp'
      obtain⟨j,hj,rfl⟩:=(pmN_mem hI.2.1.rise (Nat.le_refl _)).1 (hτ.mem_iff.1 hp')
      refine h.1.pins j hj fun e=>?_
      have:=pinAt_get hI.2.1.rise hj
      rw[e,hp] at this
      cases this
    rw[bindS hmr])
  (fun n w hw=>by show prop_New_l2 k L (setOf v L P,b) (n+1) w _=_;rw[prop_New_l2,condN (by omega)])
  (k:=k) hL (List.replicate L.length []) (by simp)
 exact e
theorem prop_New_eq (hv:Small k v) (hk:1000 < k) (hL:L.length < k) (hP:P.length < k) (ho:∀i:Nat,i < P.length→okI (aI P (i:Int)).First):prop_New k v L P=some (if dB (InOK v L P)=true then (some (mkP v L P []),0) else (none,1)):=by
 have hb:=hv.b
 obtain⟨S,e,hS⟩:=plan_In_eq hv hk hL hP ho
 unfold prop_New
 rw[bindS e]
 rcases Classical.em (InOK v L P) with h | h
 ·have e2:=prop_New_l2_eq (b:=true) hv hk h hL
  rw[dB_T h,cNT,hS h,gdD (by omega),Int.toNat_natCast,if_pos rfl]
  have e2:prop_New_l2 k L (PlanSet.mk (PlaceHall.mk v (usL v)) L (pmN P P.length),true) k (List.replicate L.length []) 0=_:=e2
  rw[bindS e2]
  rfl
 ·rw[dB_F h,cNF,if_neg (by simp)]
theorem prop_now_eq (hr:r.length≤1000):prop_Prop_now k (mkP v L P r)=some (lvl v L P r):=by
 unfold prop_Prop_now mkP
 simp only
 have hl:(lvsL v L P r).length=r.length+1:=lvsL_len
 rw[hl,show wr (((r.length+1:Nat):Int)-1)=(r.length:Int) by rw[wr_id (by omega) (by omega)];omega,bindS (idx_aI (by omega) (by omega)),lvsL_at (Nat.le_refl _),List.take_length]
theorem prop_has_eq (i:Int):prop_Prop_has k (mkP v L P r) i=some (decide (0≤i∧i < L.length)):=by
 unfold prop_Prop_has
 by_cases h:i < 0
 ·rw[condD h,decide_eq_false (by omega)]
 ·rw[condN h]
  congr 1
  rw[decide_eq_decide]
  show i < ((setOf v L P).L.length:Int) ↔ _
  have:(setOf v L P).L=L:=rfl
  rw[this]
  omega
theorem prop_Depth_eq:prop_Prop_Depth k (mkP v L P r)=some (r.length:Int):=rfl
theorem prop_Pinned_eq {i:Nat} (h:i < L.length):prop_Prop_Pinned k (mkP v L P r) (i:Int)=some ((pinAt P (i:Int)).isSome):=by
 unfold prop_Prop_Pinned
 rw[bindS (prop_has_eq _),decide_eq_true (by omega),cNT]
 rfl
theorem domL_next (hv:Small k v) {x:Int} {j:Nat} (h:NextP v L P r x) (hj:r.length < j):domL v L P (r++[x]) j=if x = -1 then domL v L P r j else (domL v L P r j).filter (fun s=>aptB v (aI L (j:Int)) s (aI L (r.length:Int)) x):=by
 have hl:(r++[x]).length=r.length+1:=by simp
 have d1:domL v L P (r++[x]) j=openL v L P (r++[x]) (j:Int):=by unfold domL;rw[if_neg (by omega)]
 have d2:domL v L P r j=openL v L P r (j:Int):=by unfold domL;rw[if_neg (by omega)]
 rw[d1,d2]
 have hfree:∀s,FreeP v L P (r++[x]) (j:Int) s ↔ FreeP v L P r (j:Int) s∧(¬x = -1→aptB v (aI L (j:Int)) s (aI L (r.length:Int)) x=true):=fun s=>by
  constructor
  ·intro hf
   refine⟨⟨fun q hq hn=>?_,hf.pins⟩,fun hn=>?_⟩
   ·have:=hf.plan q (by omega)
    rw[aI_lt hq] at this
    exact this hn
   ·have:=hf.plan r.length (by omega)
    rw[aI_last rfl] at this
    exact this hn
  ·rintro ⟨a,b⟩
   refine⟨fun q hq hn=>?_,a.pins⟩
   by_cases hqr:q < r.length
   ·rw[aI_lt hqr] at hn ⊢
    exact a.plan q hqr hn
   ·obtain rfl:q=r.length:=by omega
    rw[aI_last rfl] at hn ⊢
    exact b hn
 unfold openL
 split
 ·rename_i hx
  refine List.filter_congr fun s _=>?_
  rw[Bool.eq_iff_iff,dB_iff,dB_iff,hfree s]
  exact⟨fun a=>⟨a.1.1,a.2⟩,fun a=>⟨⟨a.1,fun hn=>absurd hx hn⟩,a.2⟩⟩
 ·rename_i hx
  rw[List.filter_filter]
  refine List.filter_congr fun s _=>?_
  rw[Bool.eq_iff_iff,Bool.and_eq_true,dB_iff,dB_iff,hfree s]
  exact⟨fun a=>⟨a.1.2 hx,a.1.1,a.2⟩,fun a=>⟨⟨a.2.1,fun _=>a.1⟩,a.2.2⟩⟩
theorem NextP.state (hv:Small k v) {x:Int} (h:NextP v L P r x):StateP v L P (r++[x]):=by
 have hl:(r++[x]).length=r.length+1:=by simp
 refine⟨h.1.inn,by have:=h.2.1;omega,fun i hi=>?_⟩
 by_cases hir:i < r.length
 ·have hG:=h.1.at_ i hir
  refine⟨fun f hf=>by rw[aI_lt hir];exact hG.pin f hf,fun hn=>?_,fun hn j hj hnj=>?_⟩
  ·rw[aI_lt hir] at hn ⊢
   exact hG.pl hn
  ·rw[aI_lt hir] at hn ⊢
   rw[aI_lt (by omega)] at hnj ⊢
   exact hG.ap hn j hj hnj
 ·obtain rfl:i=r.length:=by omega
  rcases h.2.2 with⟨hx,hp⟩ | ho
  ·refine⟨fun f hf=>(by rw[hp] at hf;cases hf),fun hn=>?_,fun hn=>?_⟩
   ·rw[aI_last rfl] at hn;exact absurd hx hn
   ·rw[aI_last rfl] at hn;exact absurd hx hn
  ·obtain⟨h1,h2,h3⟩:=(openL_mem hv).1 ho
   refine⟨fun f hf=>by rw[aI_last rfl];exact h3 f hf,fun hn=>?_,fun hn j hj hnj=>?_⟩
   ·rw[aI_last rfl];exact h1
   ·rw[aI_last rfl]
    rw[aI_lt hj] at hnj ⊢
    exact h2.plan j hj hnj
theorem domL_lt {x:Int} {i:Nat} (h:i < r.length):domL v L P (r++[x]) i=domL v L P r i:=by
 have hl:(r++[x]).length=r.length+1:=by simp
 unfold domL
 rw[if_pos (by omega),if_pos h,aI_lt h]
theorem domL_last {x:Int} : domL v L P (r++[x]) r.length=if x = -1 then [] else [x]:=by
 have hl:(r++[x]).length=r.length+1:=by simp
 unfold domL
 rw[if_pos (by omega),aI_last rfl]
noncomputable def midL (v:Venue) (L:List Party) (P:List Pin) (r:List Int) (x:Int) (j:Nat):List (List Int):=(List.range L.length).map (fun i=>if i < j then domL v L P (r++[x]) i else domL v L P r i)
theorem midL_len {x:Int} {j:Nat} : (midL v L P r x j).length=L.length:=by unfold midL;simp
theorem midL_at {x:Int} {j i:Nat} (h:i < L.length):aI (midL v L P r x j) (i:Int)=if i < j then domL v L P (r++[x]) i else domL v L P r i:=map_range_at h
theorem push_l0 (hv:Small k v) (hk:1000 < k) {x:Int} (h:NextP v L P r x) (hx:¬x = -1):∀(d n j:Nat),j+d=L.length→d < n→r.length < j→prop_Prop_Push_l0 k (mkP v L P r) x (r.length:Int) n (midL v L P r x j) (j:Int)=some (lvl v L P (r++[x]))
 | d,0,j,_,hd,_=>absurd hd (by omega)
 | 0,n+1,j,hj,_,_=>by
  have hml:(midL v L P r x j).length=L.length:=midL_len
  rw[prop_Prop_Push_l0,condN (by omega)]
  congr 1
  refine aI_ext (by rw[midL_len,lvl_len]) fun i hi=>?_
  rw[midL_len] at hi
  rw[midL_at hi,lvl_at hi,if_pos (by omega)]
 | d+1,n+1,j,hj,hd,hr=>by
  have hb:=hv.b
  have hN:=hv.hs
  have hst:=h.1
  have hlen:=hst.inn.2.2.1
  have hml:(midL v L P r x j).length=L.length:=midL_len
  have hmj:aI (midL v L P r x j) (j:Int)=domL v L P r j:=by rw[midL_at (by omega),if_neg (by omega)]
  have hdl:=domL_len (v:=v) (L:=L) (P:=P) (r:=r) (i:=j) hst.inn.1.n0
  have hxo:x ∈ openL v L P r (r.length:Int):=by
   rcases h.2.2 with y | y
   ·exact absurd y.1 hx
   ·exact y
  have hxpl:=((openL_mem hv).1 hxo).1
  have ea:prop_apart k (mkP v L P r).s (domL v L P r j) (j:Int) (r.length:Int) x=_:=prop_apart_eq (M:=pmN P P.length) (L:=L) hv hst.inn.1 hk ⟨by omega,by omega⟩ ⟨by omega,by omega⟩ (by omega) (fun s hs=>domL_pl hv hst (by omega) hs) hxpl
  have hn:=domL_next (j:=j) hv h hr
  rw[if_neg hx] at hn
  rw[← hn] at ea
  rw[prop_Prop_Push_l0,condD (by omega),bindS (idx_aI (by omega) (by omega)),hmj,bindS ea,bindS (idx_aI (by omega) (by omega)),Int.toNat_natCast,wr_succ (by omega)]
  have e2:(midL v L P r x j).set j (domL v L P (r++[x]) j)=midL v L P r x (j+1):=by
   refine aI_ext (by rw[List.length_set,midL_len,midL_len]) fun i hi=>?_
   rw[List.length_set,midL_len] at hi
   rw[aI_set (by omega),midL_at hi,midL_at hi]
   by_cases hij:i=j
   ·subst hij
    rw[if_pos rfl,if_pos (by omega)]
   ·rw[if_neg hij]
    by_cases hlt:i < j
    ·rw[if_pos hlt,if_pos (by omega)]
    ·rw[if_neg hlt,if_neg (by omega)]
  rw[e2]
  exact push_l0 hv hk h hx d n (j+1) (by omega) (by omega) (by omega)
theorem prop_Push_eq (hv:Small k v) (hk:1000 < k) (hst:StateP v L P r) (x:Int):prop_Prop_Push k (mkP v L P r) x=some (if dB (NextP v L P r x)=true then (true,lvsL v L P (r++[x]),r++[x]) else (false,lvsL v L P r,r)):=by
 have hb:=hv.b
 have hM:=hst.inn.1
 have hN:=hv.hs
 have hlen:=hst.inn.2.2.1
 have hrl:=hst.len
 have hlv:(mkP v L P r).levels.length=r.length+1:=lvsL_len
 unfold prop_Prop_Push
 rw[bindS prop_Depth_eq,bindS (prop_has_eq _)]
 by_cases hnn:¬r.length < L.length
 ·rw[decide_eq_false (by omega),cNF,bindS rfl,cond_true,dB_F (fun y=>hnn y.2.1),if_neg (by simp)]
  rfl
 have hn:=Classical.not_not.1 hnn
 have hlvn:(lvl v L P r).length=L.length:=lvl_len
 have hdn:aI (lvl v L P r) (r.length:Int)=openL v L P r (r.length:Int):=by
  rw[lvl_at hn]
  unfold domL
  rw[if_neg (Nat.lt_irrefl _)]
 have hol:=openL_len (v:=v) (L:=L) (P:=P) (r:=r) (i:=(r.length:Int))
 rw[decide_eq_true ⟨by omega,by omega⟩,cNT,bindS (prop_Pinned_eq hn),bindS (prop_now_eq (by omega)),bindS (idx_aI (l:=lvl v L P r) (by omega) (by omega)),hdn,bindS (slices_Contains_int_eq k _ x (by omega) (by omega))]
 have hcl:slices_Clone_Lint k (lvl v L P r)=some (lvl v L P r):=by
  unfold slices_Clone_Lint
  rw[gdD (by simp only[List.length_nil];omega),List.nil_append]
 have hset:(lvl v L P r).set r.length []=(lvl v L P r).set r.length []:=rfl
 by_cases h1:x = -1
 ·rw[condD h1]
  cases hp:pinAt P (r.length:Int) with
  | some f =>
   rw[Option.isSome_some,cond_true,bindS rfl,cond_true,dB_F (fun y=>by
    rcases y.2.2 with⟨_,q⟩ | q
    ·rw[hp] at q;cases q
    ·have:=openL_ge hv q;omega),if_neg (by simp)]
   rfl
  | none =>
   have hnx:NextP v L P r x:=⟨hst,hn,.inl ⟨h1,hp⟩⟩
   have e2:(lvl v L P r).set r.length []=lvl v L P (r++[x]):=by
    refine aI_ext (by rw[List.length_set,lvl_len,lvl_len]) fun i hi=>?_
    rw[List.length_set,lvl_len] at hi
    rw[aI_set (by omega),lvl_at hi,lvl_at hi]
    by_cases hij:i=r.length
    ·rw[if_pos hij,hij,domL_last,if_pos h1]
    ·rw[if_neg hij]
     by_cases hlt:i < r.length
     ·rw[domL_lt hlt]
     ·rw[domL_next hv hnx (by omega),if_pos h1]
   rw[Option.isSome_none,cond_false,condNT h1,bindS rfl,cond_false,bindS (prop_now_eq (by omega)),bindS hcl,bindS (idx_aI (l:=lvl v L P r) (by omega) (by omega)),condNT h1,Int.toNat_natCast,e2,gdD (by simp only[List.length_singleton];omega),gdD (by show r.length+_≤_;simp only[List.length_singleton];omega),dB_T hnx,if_pos rfl,lvsL_snoc]
   rfl
 ·rw[condN h1,condNF h1,bindS rfl]
  by_cases h2:x ∈ openL v L P r (r.length:Int)
  ·have hnx:NextP v L P r x:=⟨hst,hn,.inr h2⟩
   have e2:((lvl v L P r).set r.length []).set r.length [x]=midL v L P r x (r.length+1):=by
    rw[List.set_set]
    refine aI_ext (by rw[List.length_set,lvl_len,midL_len]) fun i hi=>?_
    rw[List.length_set,lvl_len] at hi
    rw[aI_set (by omega),lvl_at hi,midL_at hi]
    by_cases hij:i=r.length
    ·rw[if_pos hij,if_pos (by omega),hij,domL_last,if_neg h1]
    ·rw[if_neg hij]
     by_cases hlt:i < r.length
     ·rw[if_pos (by omega),domL_lt hlt]
     ·rw[if_neg (by omega)]
   have el:=push_l0 hv hk hnx h1 (L.length-(r.length+1)) k (r.length+1) (by omega) (by omega) (by omega)
   rw[decide_eq_true h2,Bool.not_true,cond_false,bindS (prop_now_eq (by omega)),bindS hcl,bindS (idx_aI (l:=lvl v L P r) (by omega) (by omega)),condNF h1,Int.toNat_natCast,bindS (idx_aI (l:=(lvl v L P r).set r.length []) (by omega) (by rw[List.length_set];omega)),e2,wr_succ (by omega),bindS el,gdD (by simp only[List.length_singleton];omega),gdD (by show r.length+_≤_;simp only[List.length_singleton];omega),dB_T hnx,if_pos rfl,lvsL_snoc]
   rfl
  ·rw[decide_eq_false h2,Bool.not_false,cond_true,dB_F (fun y=>by
    rcases y.2.2 with q | q
    ·exact h1 q.1
    ·exact h2 q),if_neg (by simp)]
   rfl
end
end Go.Px

set_option linter.unusedVariables false
set_option linter.unusedSimpArgs false
namespace Go.Px
open Go Go.Sh
section
variable {k:Nat} {v:Venue} {L:List Party} {P:List Pin} {r:List Int}
theorem domL_pos {m:Nat} (hv:Small k v) (hst:StateP v L P r):(0 < (domL v L P r m).length) ↔ ((m < r.length∧0≤aI r (m:Int))∨(r.length≤m∧0 < (openL v L P r (m:Int)).length)):=by
 unfold domL
 by_cases h:m < r.length
 ·rw[if_pos h]
  by_cases h1:aI r (m:Int) = -1
  ·rw[if_pos h1]
   constructor
   ·intro x;exact absurd x (by simp)
   ·rintro (x | x)
    ·omega
    ·omega
  ·rw[if_neg h1]
   have:=hst.ge hv h h1
   exact⟨fun _ => .inl ⟨h,this⟩,fun _=>by simp⟩
 ·rw[if_neg h]
  exact⟨fun x => .inr ⟨by omega,x⟩,fun x=>by rcases x with x | x;exact absurd x.1 h;exact x.2⟩
theorem prop_Most_l0_eq (hv:Small k v) (hst:StateP v L P r):∀(d n i:Nat),i+d=L.length→d < n→prop_Prop_Most_l0 k (mkP v L P r) (lvl v L P r) n (mostN v L P r i) (i:Int)=some (mostN v L P r L.length)
 | d,0,i,_,h=>absurd h (by omega)
 | 0,n+1,i,hi,_=>by
  have hl:(lvl v L P r).length=L.length:=lvl_len
  rw[prop_Prop_Most_l0,condN (by omega),show i=L.length by omega]
 | d+1,n+1,i,hi,hd=>by
  have hl:(lvl v L P r).length=L.length:=lvl_len
  have hA:=hst.inn.2.2
  have h1:=hA.1
  have h2:=hA.2 i (by omega)
  have h3:=mostN_bd (v:=v) (P:=P) (r:=r) hA (n:=i) (by omega)
  have ih:=prop_Most_l0_eq hv hst d n (i+1) (by omega) (by omega)
  have hx:idx (mkP v L P r).s.L (i:Int)=some (aI L (i:Int)):=idx_aI (l:=L) (by omega) (by omega)
  rw[mostN] at ih
  rw[prop_Prop_Most_l0,condD (by omega),bindS (idx_aI (by omega) (by omega)),lvl_at (by omega),wr_succ (by omega)]
  by_cases h:0 < (domL v L P r i).length
  ·rw[if_pos ((domL_pos hv hst).1 h)] at ih
   rw[condD (by omega),bindS hx,wr_id (by omega) (by omega),ih]
  ·rw[if_neg (fun x=>h ((domL_pos hv hst).2 x)),Int.add_zero] at ih
   rw[condN (by omega),ih]
theorem prop_Most_eq (hv:Small k v) (hk:1000 < k) (hst:StateP v L P r):prop_Prop_Most k (mkP v L P r)=some (mostN v L P r L.length):=by
 have h1:=hst.inn.2.2.1
 have h2:=hst.len
 unfold prop_Prop_Most
 have e:=prop_Most_l0_eq hv hst L.length k 0 (by omega) (by omega)
 have e:prop_Prop_Most_l0 k (mkP v L P r) (lvl v L P r) k 0 0=_:=e
 rw[bindS (prop_now_eq (by omega)),bindS e]
theorem prop_Domain_eq (hst:StateP v L P r) (i:Int):prop_Prop_Domain k (mkP v L P r) i=some (if 0≤i∧i < L.length then domL v L P r i.toNat else []):=by
 have h1:=hst.inn.2.2.1
 have h2:=hst.len
 have hM:=hst.inn.1
 have hn1:=hM.n1
 unfold prop_Prop_Domain
 rw[bindS (prop_has_eq _)]
 by_cases h:0≤i∧i < L.length
 ·have hl:(lvl v L P r).length=L.length:=lvl_len
  have b:=domL_len (v:=v) (L:=L) (P:=P) (r:=r) (i:=i.toNat) hM.n0
  have hat:aI (lvl v L P r) i=domL v L P r i.toNat:=by
   have:=lvl_at (v:=v) (L:=L) (P:=P) (r:=r) (i:=i.toNat) (by omega)
   rw[show((i.toNat:Nat):Int)=i by omega] at this
   exact this
  rw[decide_eq_true h,cNT,bindS (prop_now_eq (by omega)),bindS (idx_aI (by omega) (by omega)),hat,if_pos h]
  unfold slices_Clone_int
  rw[gdD (by simp only[List.length_nil];omega),List.nil_append]
  rfl
 ·rw[decide_eq_false h,cNF,if_neg h]
  rfl
theorem lvsL_take {n:Nat} (h:n < r.length):(lvsL v L P r).take (n+1)=lvsL v L P (r.take n):=by
 have hl:(r.take n).length=n:=by rw[List.length_take];omega
 unfold lvsL
 rw[← List.map_take,hl,List.take_range,Nat.min_eq_left (by omega)]
 refine List.map_congr_left fun m hm=>?_
 have:=List.mem_range.1 hm
 rw[List.take_take,Nat.min_eq_left (by omega)]
theorem prop_Pop_eq (hr:r.length≤1000):prop_Prop_Pop k (mkP v L P r)=some (if r.length=0 then (false,lvsL v L P r,r) else (true,lvsL v L P (r.take (r.length-1)),r.take (r.length-1))):=by
 have hlv:(mkP v L P r).levels.length=r.length+1:=lvsL_len
 have hp:(mkP v L P r).p=r:=rfl
 unfold prop_Prop_Pop
 rw[bindS prop_Depth_eq]
 by_cases h:r.length=0
 ·rw[condD (by omega),if_pos h];rfl
 ·have e1:wr (((r.length+1:Nat):Int)-1)=(r.length:Int):=by rw[wr_id (by omega) (by omega)];omega
  have e2:wr ((r.length:Int)-1)=((r.length-1:Nat):Int):=by rw[wr_id (by omega) (by omega)];omega
  rw[condN (by omega),hlv,hp,e1,e2,gdD (by omega),gdD (by omega),if_neg h,Int.toNat_natCast,Int.toNat_natCast]
  have:=lvsL_take (v:=v) (L:=L) (P:=P) (r:=r) (n:=r.length-1) (by omega)
  rw[show r.length-1+1=r.length by omega] at this
  rw[← this]
  rfl
theorem StateP.take (h:StateP v L P r) (n:Nat):StateP v L P (r.take n):=by
 have hl:=h.len
 refine⟨h.inn,by rw[List.length_take];omega,fun i hi=>?_⟩
 rw[List.length_take] at hi
 have hG:=h.at_ i (by omega)
 refine⟨fun f hf=>by rw[aI_take (by omega) (by omega)];exact hG.pin f hf,fun hn=>?_,fun hn j hj hnj=>?_⟩
 ·rw[aI_take (by omega) (by omega)] at hn ⊢
  exact hG.pl hn
 ·rw[aI_take (by omega) (by omega)] at hn hnj ⊢
  rw[aI_take (by omega) (by omega)]
  exact hG.ap hn j hj hnj
theorem StateP_nil (hI:InOK v L P):StateP v L P []:=⟨hI,by simp,fun i hi=>absurd hi (by simp)⟩
end
end Go.Px

set_option linter.unusedVariables false
set_option linter.unusedSimpArgs false
namespace Go.Px
open Go Go.Sh
structure HS where
 plan:List Int
 most:Int
 nodes:Int
 tree:List Bool
noncomputable def rowRun (f:Int→HS→HS×Bool):List Int→HS→HS×Bool
 | [],s=>(s,true)
 | x::xs,s=>if (f x s).2=true then rowRun f xs (f x s).1 else f x s
noncomputable def rowL (v:Venue) (L:List Party) (P:List Pin) (r:List Int):List Int:=openL v L P r (r.length:Int)++(if (pinAt P (r.length:Int)).isSome=true then [] else [-1])
noncomputable def leafS (v:Venue) (L:List Party) (P:List Pin) (r:List Int) (s:HS):HS:=if s.most < mostN v L P r L.length then ⟨r,mostN v L P r L.length,s.nodes+1,s.tree⟩ else ⟨s.plan,s.most,s.nodes+1,s.tree⟩
noncomputable def hunt (v:Venue) (L:List Party) (P:List Pin) (fuel:Int):Nat→List Int→HS→HS×Bool
 | 0,r,s=>if fuel≤s.nodes then (s,false) else (leafS v L P r s,true)
 | d+1,r,s=>if fuel≤s.nodes then (s,false) else if s.most < mostN v L P r L.length then rowRun (fun x s=>hunt v L P fuel d (r++[x]) s) (rowL v L P r) ⟨s.plan,s.most,s.nodes+1,s.tree++[true]⟩ else (⟨s.plan,s.most,s.nodes+1,s.tree++[false]⟩,true)
section
variable {k:Nat} {v:Venue} {L:List Party} {P:List Pin} {r:List Int} {fuel:Int}
structure HInv (fuel:Int) (s:HS):Prop where
 n0:0≤s.nodes
 t:(s.tree.length:Int)≤s.nodes
theorem rowL_next (hv:Small k v) (hst:StateP v L P r) (hr:r.length < L.length) {x:Int} (h:x ∈ rowL v L P r):NextP v L P r x:=by
 unfold rowL at h
 rcases List.mem_append.1 h with h | h
 ·exact⟨hst,hr,.inr h⟩
 ·split at h
  ·cases h
  ·rename_i hn
   rw[List.mem_singleton] at h
   refine⟨hst,hr,.inl ⟨h,?_⟩⟩
   cases hp:pinAt P (r.length:Int) with
   | none=>rfl
   | some f=>rw[hp] at hn;exact absurd rfl hn
theorem rowL_len:(rowL v L P r).length≤v.Seats.length+1:=by
 unfold rowL
 have:=openL_len (v:=v) (L:=L) (P:=P) (r:=r) (i:=(r.length:Int))
 rw[List.length_append]
 split <;> simp <;> omega
theorem search_Row_eq (hst:StateP v L P r) (hr:r.length < L.length):search_Row k (mkP v L P r)=some (rowL v L P r):=by
 have hM:=hst.inn.1
 have hn1:=hM.n1
 have hd:domL v L P r r.length=openL v L P r (r.length:Int):=by unfold domL;rw[if_neg (Nat.lt_irrefl _)]
 have hol:=openL_len (v:=v) (L:=L) (P:=P) (r:=r) (i:=(r.length:Int))
 unfold search_Row
 rw[bindS prop_Depth_eq,bindS (prop_Domain_eq hst _),if_pos ⟨by omega,by omega⟩,Int.toNat_natCast,hd,bindS (prop_Pinned_eq hr)]
 unfold rowL
 cases (pinAt P (r.length:Int)).isSome
 ·rw[cNF,gdD (by simp only[List.length_singleton];omega),if_neg (by simp)]
 ·rw[cNT,if_pos rfl,List.append_nil]
def upR (r:List Int):List Int:=r.take (r.length-1)
theorem pop_up (hr:r.length≤1000):∃b,prop_Prop_Pop k (mkP v L P r)=some (b,lvsL v L P (upR r),upR r):=by
 rw[prop_Pop_eq hr]
 unfold upR
 by_cases h:r.length=0
 ·obtain rfl:=List.length_eq_zero_iff.1 h
  exact⟨false,rfl⟩
 ·rw[if_neg h];exact⟨true,rfl⟩
theorem upR_snoc {x:Int} : upR (r++[x])=r:=by
 unfold upR
 rw[List.length_append,List.length_singleton,Nat.add_sub_cancel,List.take_left']
 rfl
def stepsB:Nat→Nat
 | 0=>0
 | d+1=>10 * (1+stepsB d)+1
end
end Go.Px

set_option linter.unusedVariables false
set_option linter.unusedSimpArgs false
namespace Go.Px
open Go Go.Sh
section
variable {k:Nat} {v:Venue} {L:List Party} {P:List Pin} {r:List Int} {fuel:Int}
noncomputable def s0 (L:List Party) (P:List Pin):HS:=⟨pinPlan L P,seatN L (pinPlan L P) L.length,0,[]⟩
noncomputable def huntR (v:Venue) (L:List Party) (P:List Pin) (fuel:Int):HS×Bool:=hunt v L P fuel L.length [] (s0 L P)
theorem stepsB_4 {d:Nat} (h:d≤4):stepsB d≤12221:=by
 have:d=0∨d=1∨d=2∨d=3∨d=4:=by omega
 rcases this with rfl | rfl | rfl | rfl | rfl <;> decide
/- what holds of the walk -/
structure Less (f1:Int) (a b:HS×Bool) (s:HS):Prop where
 same:a.2=true→b=a
 nodes:a.2=false→a.1.nodes=max f1 s.nodes
 most:a.1.most≤b.1.most
 more:a.2=false→b.2=true→f1 < b.1.nodes
 le:a.1.nodes≤b.1.nodes
end
end Go.Px

set_option linter.unusedVariables false
set_option linter.unusedSimpArgs false
namespace Go.Px
open Go Go.Sh
section
variable {k:Nat} {v:Venue} {L:List Party} {P:List Pin} {r:List Int} {fuel:Int}
structure SCtx (v:Venue) (L:List Party) (P:List Pin) (N:Int):Prop where
 c:BCtx v L P
 ok:(huntR v L P 1073741824).2=true
 n:(huntR v L P 1073741824).1.nodes=N
 n1:1≤N
 n2:N≤11111
end
end Go.Px

set_option linter.unusedVariables false
set_option linter.unusedSimpArgs false
namespace Go.Px
open Go Go.Sh
section
variable {k:Nat} {v:Venue} {L:List Party} {P:List Pin} {r:List Int} {fuel:Int}
end
end Go.Px

set_option linter.unusedVariables false
set_option linter.unusedSimpArgs false
namespace Go.Px
open Go Go.Sh
section
variable {k:Nat} {v:Venue} {L:List Party} {P:List Pin} {r:List Int} {fuel m:Int} {t:List Bool}
noncomputable def rowC {σ:Type} (f:Int → σ → σ×Bool):List Int → σ → σ×Bool
 | [],s=>(s,true)
 | x::xs,s=>if (f x s).2=true then rowC f xs (f x s).1 else f x s
noncomputable def chk (v:Venue) (L:List Party) (P:List Pin) (m:Int) (t:List Bool):Nat→List Int→Nat→Nat×Bool
 | 0,r,a=>(a,dB (mostN v L P r L.length≤m))
 | d+1,r,a=>if t.length≤a then (a,false) else if aI t (a:Int)=true then rowC (fun x a=>chk v L P m t d (r++[x]) a) (rowL v L P r) (a+1) else (a+1,dB (mostN v L P r L.length≤m))
noncomputable def ned (v:Venue) (L:List Party) (P:List Pin) (m:Int):Nat→List Int→List Bool→List Bool×Bool
 | 0,r,w=>(w,dB (mostN v L P r L.length≤m))
 | d+1,r,w=>if m < mostN v L P r L.length then rowC (fun x w=>ned v L P m d (r++[x]) w) (rowL v L P r) (w++[true]) else (w++[false],true)
/- how many bits are taken -/
theorem rowC_le {f:Int→Nat→Nat×Bool} {n:Nat} (hf:∀x a,a≤n→a≤(f x a).1∧(f x a).1≤n):∀(l:List Int) (a:Nat),a≤n→a≤(rowC f l a).1∧(rowC f l a).1≤n
 | [],a,h=>⟨Nat.le_refl _,h⟩
 | x::xs,a,h=>by
  have h1:=hf x a h
  rw[rowC]
  split
  ·have h2:=rowC_le hf xs (f x a).1 h1.2
   exact⟨by omega,h2.2⟩
  ·exact h1
theorem chk_le:∀(d:Nat) (r:List Int) (a:Nat),a≤t.length→a≤(chk v L P m t d r a).1∧(chk v L P m t d r a).1≤t.length
 | 0,r,a,h=>by rw[chk];exact⟨Nat.le_refl _,h⟩
 | d+1,r,a,h=>by
  rw[chk]
  split
  ·exact⟨Nat.le_refl _,h⟩
  ·split
   ·have:=rowC_le (f:=fun x a=>chk v L P m t d (r++[x]) a) (n:=t.length) (fun x a ha=>chk_le d (r++[x]) a ha) (rowL v L P r) (a+1) (by omega)
    exact⟨by omega,this.2⟩
   ·exact⟨by show a≤a+1;omega,by show a+1≤t.length;omega⟩
/- a row that holds bounds all plans -/
/- bits behind change nothing -/
/- the least row -/
/- the search's own bits -/
end
end Go.Px

set_option linter.unusedVariables false
set_option linter.unusedSimpArgs false
namespace Go.Px
open Go Go.Sh
section
variable {k:Nat} {v:Venue} {L:List Party} {P:List Pin} {r:List Int} {m:Int} {t:List Bool} {σ τ ρ:Type}
noncomputable def wlk (v:Venue) (L:List Party) (P:List Pin) (nd:List Int → σ → σ×Bool×Bool) (lf:List Int→Bool):Nat→List Int → σ → σ×Bool
 | 0,r,s=>(s,lf r)
 | d+1,r,s=>if (nd r s).2.1=true then (if (nd r s).2.2=true then rowC (fun x s=>wlk v L P nd lf d (r++[x]) s) (rowL v L P r) (nd r s).1 else ((nd r s).1,true)) else ((nd r s).1,false)
noncomputable def lok (L:List Party) (nd:List Int → σ → σ×Bool×Bool) (lf:List Int→Bool) (r:List Int) (s : σ) : σ×Bool×Bool:=if r.length=L.length then (s,lf r,false) else nd r s
def bN:Nat→Nat
 | 0=>0
 | d+1=>1+10 * bN d
theorem rowC_sz {f:Int → σ → σ×Bool} {sz : σ→Nat} {b:Nat} (hf:∀x s,sz (f x s).1≤sz s+b):∀(l:List Int) (s : σ),sz (rowC f l s).1≤sz s+l.length * b
 | [],s=>by show sz s≤_;omega
 | x::xs,s=>by
  have h1:=hf x s
  have h2:=rowC_sz hf xs (f x s).1
  rw[rowC,List.length_cons,Nat.succ_mul]
  split <;> omega
theorem wlk_sz (hn:v.Seats.length≤9) {nd:List Int → σ → σ×Bool×Bool} {lf:List Int→Bool} {sz : σ→Nat} (hs:∀r s,sz (nd r s).1≤sz s+1):∀(d:Nat) (r:List Int) (s : σ),sz (wlk v L P nd lf d r s).1≤sz s+bN d
 | 0,r,s=>Nat.le_refl _
 | d+1,r,s=>by
  have h1:=hs r s
  have h2:=rowC_sz (f:=fun x s=>wlk v L P nd lf d (r++[x]) s) (sz:=sz) (fun x s=>wlk_sz hn hs d (r++[x]) s) (rowL v L P r) (nd r s).1
  have h3:=rowL_len (v:=v) (L:=L) (P:=P) (r:=r)
  have h4:(rowL v L P r).length * bN d≤10 * bN d:=Nat.mul_le_mul_right _ (by omega)
  rw[wlk,bN]
  split
  ·split
   ·omega
   ·show sz (nd r s).1≤_;omega
  ·show sz (nd r s).1≤_;omega
structure CMach (v:Venue) (L:List Party) (P:List Pin) (nd:List Int → σ → σ×Bool×Bool) (lf:List Int→Bool) (sz : σ→Nat) (enc : σ → τ) (F:Nat→List (List (List Int))→List Int → τ→List CertRow→Bool→Option ρ):Prop where
 pop:∀(n:Nat) (r:List Int) (s : σ) (st:List CertRow),r.length≤1000→st.length≤1000→F (n+1) (lvsL v L P r) r (enc s) (st++[CertRow.mk (rowL v L P r) ((rowL v L P r).length:Int)]) true=F n (lvsL v L P (upR r)) (upR r) (enc s) st true
 push:∀(r:List Int) (s : σ) (st:List CertRow) (a:Nat),a < (rowL v L P r).length→StateP v L P r→r.length < L.length→st.length≤1000→sz s≤100000→∃r2 st2,(∀n,F (n+1) (lvsL v L P r) r (enc s) (st++[CertRow.mk (rowL v L P r) (a:Int)]) true=F n (lvsL v L P r2) r2 (enc (lok L nd lf (r++[aI (rowL v L P r) (a:Int)]) s).1) st2 (lok L nd lf (r++[aI (rowL v L P r) (a:Int)]) s).2.1) ∧
  ((lok L nd lf (r++[aI (rowL v L P r) (a:Int)]) s).2.1=true→if (lok L nd lf (r++[aI (rowL v L P r) (a:Int)]) s).2.2=true then r2=r++[aI (rowL v L P r) (a:Int)]∧st2=(st++[CertRow.mk (rowL v L P r) ((a+1:Nat):Int)])++[CertRow.mk (rowL v L P (r++[aI (rowL v L P r) (a:Int)])) 0] else r2=r∧st2=st++[CertRow.mk (rowL v L P r) ((a+1:Nat):Int)])
section
variable {nd:List Int → σ → σ×Bool×Bool} {lf:List Int→Bool} {sz : σ→Nat} {enc : σ → τ} {F:Nat→List (List (List Int))→List Int → τ→List CertRow→Bool→Option ρ}
def AfterP (v:Venue) (L:List Party) (P:List Pin) (q : σ×Bool×Bool) (r:List Int) (st:List CertRow) (r2:List Int) (st2:List CertRow):Prop:=q.2.1=true→if q.2.2=true then r2=r∧st2=st++[CertRow.mk (rowL v L P r) 0] else r2=upR r∧st2=st
def EndP (F:Nat→List (List (List Int))→List Int → τ→List CertRow→Bool→Option ρ) (enc : σ → τ) (v:Venue) (L:List Party) (P:List Pin) (b:Nat) (lv:List (List (List Int))) (r2:List Int) (s : σ) (st2:List CertRow) (g:Bool) (w : σ×Bool) (r:List Int) (st:List CertRow):Prop :=
 ∃(c:Nat) (r3:List Int) (st3:List CertRow),c≤b∧(∀n,F (n+c) lv r2 (enc s) st2 g=F n (lvsL v L P r3) r3 (enc w.1) st3 w.2)∧(w.2=true→r3=upR r∧st3=st)
theorem cmach_row (hM:CMach v L P nd lf sz enc F) (hs1:∀r s,sz (nd r s).1≤sz s+1) (hv:Small k v) (hn9:v.Seats.length≤9) {d:Nat}
  (hmain:∀(r:List Int) (s : σ) (st:List CertRow) (r2:List Int) (st2:List CertRow),r.length+d=L.length→StateP v L P r→sz s+bN d≤100000→st.length≤r.length+1→AfterP v L P (lok L nd lf r s) r st r2 st2→EndP F enc v L P (stepsB d) (lvsL v L P r2) r2 (lok L nd lf r s).1 st2 (lok L nd lf r s).2.1 (wlk v L P nd lf d r s) r st)
  (hr:r.length+(d+1)=L.length) (hst:StateP v L P r) {st:List CertRow} (hsl:st.length≤r.length+1):∀(e a:Nat) (s : σ),a+e=(rowL v L P r).length→sz s+e * bN d≤100000 →
  EndP F enc v L P (e * (1+stepsB d)+1) (lvsL v L P r) r s (st++[CertRow.mk (rowL v L P r) (a:Int)]) true (rowC (fun x s=>wlk v L P nd lf d (r++[x]) s) ((rowL v L P r).drop a) s) r st:=by
 have hlen:=hst.inn.2.2.1
 intro e
 induction e with
 | zero =>
  intro a s ha hs
  obtain rfl:a=(rowL v L P r).length:=by omega
  refine⟨1,upR r,st,by omega,fun n=>?_,fun _=>⟨rfl,rfl⟩⟩
  rw[List.drop_length]
  exact hM.pop n r s st (by omega) (by omega)
 | succ e ih =>
  intro a s ha hs
  rw[Nat.succ_mul] at hs
  have hnx:=rowL_next hv hst (by omega) (aI_mem (l:=rowL v L P r) (x:=(a:Int)) (by omega) (by omega))
  have hdrop:=drop_aI (l:=rowL v L P r) (i:=a) (by omega)
  obtain⟨r2,st2,h1,h2⟩:=hM.push r s st a (by omega) hst (by omega) (by omega) (by omega)
  generalize aI (rowL v L P r) (a:Int)=x at h1 h2 hnx hdrop
  have hst':=hnx.state hv
  have hl':(r++[x]).length=r.length+1:=by simp
  have hup:upR (r++[x])=r:=upR_snoc
  obtain⟨c1,r3,st3,b1,b2,b3⟩:=hmain (r++[x]) s (st++[CertRow.mk (rowL v L P r) ((a+1:Nat):Int)]) r2 st2 (by omega) hst' (by omega) (by rw[List.length_append,List.length_singleton];omega) (fun h=>by
   have:=h2 h
   rw[hup]
   exact this)
  rw[hdrop,rowC]
  cases hok:(wlk v L P nd lf d (r++[x]) s).2
  ·rw[if_neg (by simp)]
   rw[hok] at b2
   refine⟨c1+1,r3,st3,?_,fun n=>?_,fun h=>?_⟩
   ·rw[Nat.succ_mul];omega
   ·rw[show n+(c1+1)=(n+c1)+1 by omega,h1,b2,hok]
   ·rw[hok] at h;cases h
  ·rw[if_pos rfl]
   obtain⟨e1,e2⟩:=b3 hok
   rw[hok] at b2
   rw[hup] at e1
   have hsz:=wlk_sz (v:=v) (L:=L) (P:=P) hn9 (nd:=nd) (lf:=lf) (sz:=sz) hs1 d (r++[x]) s
   obtain⟨c2,r4,st4,d1,d2,d3⟩:=ih (a+1) (wlk v L P nd lf d (r++[x]) s).1 (by omega) (by omega)
   refine⟨c1+c2+1,r4,st4,?_,fun n=>?_,d3⟩
   ·rw[Nat.succ_mul];omega
   ·rw[show n+(c1+c2+1)=((n+c2)+c1)+1 by omega,h1,b2,e1,e2,d2]
theorem cmach_main (hM:CMach v L P nd lf sz enc F) (hs1:∀r s,sz (nd r s).1≤sz s+1) (hv:Small k v) (hn9:v.Seats.length≤9):∀(d:Nat) (r:List Int) (s : σ) (st:List CertRow) (r2:List Int) (st2:List CertRow),r.length+d=L.length→StateP v L P r→sz s+bN d≤100000→st.length≤r.length+1→AfterP v L P (lok L nd lf r s) r st r2 st2→EndP F enc v L P (stepsB d) (lvsL v L P r2) r2 (lok L nd lf r s).1 st2 (lok L nd lf r s).2.1 (wlk v L P nd lf d r s) r st
 | 0,r,s,st,r2,st2,hr,hst,hs,hsl,hA=>by
  have e:lok L nd lf r s=(s,lf r,false):=by unfold lok;rw[if_pos (by omega)]
  unfold AfterP at hA
  rw[e] at hA ⊢
  refine⟨0,r2,st2,Nat.le_refl _,fun n=>rfl,fun h=>?_⟩
  have:=hA h
  rw[if_neg (by simp)] at this
  exact this
 | d+1,r,s,st,r2,st2,hr,hst,hs,hsl,hA=>by
  have hrl:=rowL_len (v:=v) (L:=L) (P:=P) (r:=r)
  have e:lok L nd lf r s=nd r s:=by unfold lok;rw[if_neg (by omega)]
  unfold AfterP at hA
  rw[e] at hA ⊢
  rw[bN] at hs
  rw[wlk]
  cases h1:(nd r s).2.1
  ·rw[if_neg (by simp)]
   exact⟨0,r2,st2,by omega,fun n=>rfl,fun h=>by cases h⟩
  rw[if_pos rfl]
  have hA:=hA h1
  cases h2:(nd r s).2.2
  ·rw[if_neg (by simp)]
   rw[h2,if_neg (by simp)] at hA
   exact⟨0,r2,st2,by omega,fun n=>rfl,fun _=>hA⟩
  ·rw[if_pos rfl]
   rw[h2,if_pos rfl] at hA
   have hq:=hs1 r s
   have hle:(rowL v L P r).length * bN d≤10 * bN d:=Nat.mul_le_mul_right _ (by omega)
   have:=cmach_row hM hs1 hv hn9 (cmach_main hM hs1 hv hn9 d) hr hst hsl (rowL v L P r).length 0 (nd r s).1 (by omega) (by omega)
   rw[List.drop_zero] at this
   obtain⟨c,r3,st3,b1,b2,b3⟩:=this
   refine⟨c,r3,st3,?_,fun n=>?_,b3⟩
   ·have:(rowL v L P r).length * (1+stepsB d)≤10 * (1+stepsB d):=Nat.mul_le_mul_right _ (by omega)
    rw[stepsB]
    omega
   ·rw[hA.1,hA.2]
    exact b2 n
end
/- the two walks -/
noncomputable def ndC (v:Venue) (L:List Party) (P:List Pin) (m:Int) (t:List Bool) (r:List Int) (a:Nat):Nat×Bool×Bool:=if t.length≤a then (a,false,false) else if aI t (a:Int)=true then (a+1,true,true) else (a+1,dB (mostN v L P r L.length≤m),false)
noncomputable def ndN (v:Venue) (L:List Party) (P:List Pin) (m:Int) (r:List Int) (w:List Bool):List Bool×Bool×Bool:=if m < mostN v L P r L.length then (w++[true],true,true) else (w++[false],true,false)
noncomputable def lfC (v:Venue) (L:List Party) (P:List Pin) (m:Int) (r:List Int):Bool:=dB (mostN v L P r L.length≤m)
theorem wlk_chk:∀(d:Nat) (r:List Int) (a:Nat),wlk v L P (ndC v L P m t) (lfC v L P m) d r a=chk v L P m t d r a
 | 0,r,a=>rfl
 | d+1,r,a=>by
  have hf:(fun x s=>wlk v L P (ndC v L P m t) (lfC v L P m) d (r++[x]) s)=(fun x s=>chk v L P m t d (r++[x]) s):=funext fun x=>funext fun s=>wlk_chk d (r++[x]) s
  rw[wlk,chk,hf]
  unfold ndC
  by_cases h1:t.length≤a
  ·rw[if_pos h1,if_pos h1,if_neg (by simp)]
  ·rw[if_neg h1,if_neg h1]
   by_cases h2:aI t (a:Int)=true
   ·rw[if_pos h2,if_pos h2,if_pos rfl,if_pos rfl]
   ·rw[if_neg h2,if_neg h2]
    cases h3:dB (mostN v L P r L.length≤m)
    ·rw[if_neg (by simp)]
    ·rw[if_pos rfl,if_neg (by simp)]
theorem wlk_ned:∀(d:Nat) (r:List Int) (w:List Bool),wlk v L P (ndN v L P m) (lfC v L P m) d r w=ned v L P m d r w
 | 0,r,w=>rfl
 | d+1,r,w=>by
  have hf:(fun x s=>wlk v L P (ndN v L P m) (lfC v L P m) d (r++[x]) s)=(fun x s=>ned v L P m d (r++[x]) s):=funext fun x=>funext fun s=>wlk_ned d (r++[x]) s
  rw[wlk,ned,hf]
  unfold ndN
  by_cases h1:m < mostN v L P r L.length
  ·rw[if_pos h1,if_pos h1,if_pos rfl,if_pos rfl]
  ·rw[if_neg h1,if_neg h1,if_pos rfl,if_neg (by simp)]
theorem dB_dec {p:Prop} [Decidable p]:decide p=dB p:=by
 by_cases h:p
 ·rw[dB_T h,decide_eq_true h]
 ·rw[dB_F h,decide_eq_false h]
theorem goOn_F (hr:r.length≤1000) {n s:Int} {t:List Bool} {a:Int} {st:List CertRow} : cert_walk_goOn k (CertWalk.mk (mkP v L P r) n s t a st) false=some (lvsL v L P (upR r),upR r,st):=by
 obtain⟨b,eP⟩:=pop_up (k:=k) (v:=v) (L:=L) (P:=P) hr
 unfold cert_walk_goOn
 rw[cNF,bindS eP]
theorem goOn_T (hst:StateP v L P r) (hr:r.length < L.length) {n s:Int} {t:List Bool} {a:Int} {st:List CertRow} (hsl:st.length≤2000):cert_walk_goOn k (CertWalk.mk (mkP v L P r) n s t a st) true=some (lvsL v L P r,r,st++[CertRow.mk (rowL v L P r) 0]):=by
 unfold cert_walk_goOn
 rw[cNT,bindS (search_Row_eq hst hr),gdD (by simp only[List.length_singleton];omega)]
 rfl
theorem look2_eq (hv:Small k v) (hk:1000 < k) (hst:StateP v L P r) {a:Nat} (ha:a≤100000) {st:List CertRow} (hsl:st.length≤2000) (htl:t.length≤100000) (hat:a≤t.length):∃r2 st2,cert_walk_look k (CertWalk.mk (mkP v L P r) (L.length:Int) m t (a:Int) st)=some (if r.length=L.length then true else (ndC v L P m t r a).2.1,lvsL v L P r2,r2,(((if r.length=L.length then a else (ndC v L P m t r a).1:Nat)):Int),st2) ∧
  (if r.length=L.length then r2=upR r∧st2=st else (ndC v L P m t r a).2.1=true→if (ndC v L P m t r a).2.2=true then r2=r∧st2=st++[CertRow.mk (rowL v L P r) 0] else r2=upR r∧st2=st):=by
 have h1:=hst.inn.2.2.1
 have h2:=hst.len
 unfold cert_walk_look
 dsimp only
 rw[bindS prop_Depth_eq]
 by_cases hr:r.length=L.length
 ·rw[condD (by omega),bindS (goOn_F (by omega)),if_pos hr,if_pos hr]
  exact⟨upR r,st,rfl,by rw[if_pos hr];exact⟨rfl,rfl⟩⟩
 ·rw[condN (by omega),if_neg hr,if_neg hr]
  unfold ndC
  by_cases h3:t.length≤a
  ·rw[condD (by omega),if_pos h3]
   exact⟨r,st,rfl,by rw[if_neg hr];exact fun h=>by cases h⟩
  ·rw[condN (by omega),if_neg h3,bindS (idx_aI (by omega) (by omega)),wr_succ (by omega)]
   cases h4:aI t (a:Int)
   ·rw[cond_false,bindS (prop_Most_eq hv hk hst),dB_dec,bindS rfl,bindS (goOn_F (by omega)),if_neg (by simp)]
    exact⟨upR r,st,rfl,by rw[if_neg hr];exact fun _=>⟨rfl,rfl⟩⟩
   ·rw[cond_true,bindS rfl,bindS (goOn_T hst (by omega) hsl),if_pos rfl]
    exact⟨r,st++[CertRow.mk (rowL v L P r) 0],rfl,by rw[if_neg hr];exact fun _=>⟨rfl,rfl⟩⟩
def szC (t:List Bool) (a:Nat):Nat:=if a≤t.length then a else 200000
theorem szC_nd:∀(r:List Int) (a:Nat),szC t (ndC v L P m t r a).1≤szC t a+1:=fun r a=>by
 unfold ndC szC
 by_cases h:t.length≤a
 ·rw[if_pos h]
  show(if a≤t.length then a else 200000)≤_
  omega
 ·rw[if_neg h]
  have e:(if aI t (a:Int)=true then (a+1,true,true) else (a+1,dB (mostN v L P r L.length≤m),false)).1=a+1:=by split <;> rfl
  rw[e,if_pos (by omega),if_pos (by omega)]
  exact Nat.le_refl _
theorem top_st {st:List CertRow} {x:CertRow} : idx (st++[x]) (st.length:Int)=some x:=by
 refine idx_get (by omega) ?_
 rw[Int.toNat_natCast,List.getElem?_append_right (Nat.le_refl _),Nat.sub_self]
 rfl
theorem len_st {st:List CertRow} {x:CertRow} (h:st.length≤1000):wr (((st++[x]).length:Int)-1)=(st.length:Int):=by
 rw[List.length_append,List.length_singleton,wr_id (by omega) (by omega)]
 omega
theorem set_st {st:List CertRow} {x y:CertRow} : (st++[x]).set st.length y=st++[y]:=by
 rw[List.set_append_right _ _ (Nat.le_refl _),Nat.sub_self]
 rfl
theorem more_eq (hv:Small k v) (hk:1000 < k) (hst:StateP v L P r):(Option.bind (prop_Prop_Depth k (mkP v L P r)) fun r114=>cond (decide (r114=(L.length:Int))) (Option.bind (prop_Prop_Most k (mkP v L P r)) fun r117=>some (decide (m < r117))) (some false))=some (if r.length=L.length then !lfC v L P m r else false):=by
 rw[bindS prop_Depth_eq]
 by_cases h:r.length=L.length
 ·rw[condD (by omega),bindS (prop_Most_eq hv hk hst),if_pos h]
  unfold lfC
  by_cases h2:m < mostN v L P r L.length
  ·rw[decide_eq_true h2,dB_F (by omega)];rfl
  ·rw[decide_eq_false h2,dB_T (by omega)];rfl
 ·rw[condN (by omega),if_neg h]
theorem look_mach (hv:Small k v) (hk:1000 < k) (htl:t.length≤100000) {a0:CertWalk} (h1:a0.p.s=setOf v L P) (h2:a0.n=(L.length:Int)) (h3:a0.seats=m) (h4:a0.t=t):CMach v L P (ndC v L P m t) (lfC v L P m) (szC t) (fun a:Nat=>(a:Int)) (cert_walk_all_look_l0 k a0):=by
 refine⟨fun n r s st hr hsl=>?_,fun r s st a ha hst hr hsl hs=>?_⟩
 ·obtain⟨b,eP⟩:=pop_up (k:=k) (v:=v) (L:=L) (P:=P) hr
  have eP':prop_Prop_Pop k (PropProp.mk (setOf v L P) (lvsL v L P r) r)=_:=eP
  rw[cert_walk_all_look_l0,h1,cond_true,bindS rfl,decide_eq_true (by rw[List.length_append,List.length_singleton];omega),cond_true,len_st hsl,bindS top_st]
  dsimp only
  rw[condD rfl,gdD (by rw[List.length_append,List.length_singleton];omega),bindS eP',Int.toNat_natCast,List.take_left' rfl]
 ·have hlen:=hst.inn.2.2.1
  have hx:idx (rowL v L P r) (a:Int)=some (aI (rowL v L P r) (a:Int)):=idx_aI (by omega) (by omega)
  have hnx:=rowL_next hv hst hr (aI_mem (l:=rowL v L P r) (x:=(a:Int)) (by omega) (by omega))
  have hrl:=rowL_len (v:=v) (L:=L) (P:=P) (r:=r)
  have hvs:=hv.hs
  have hvb:=hv.b
  generalize aI (rowL v L P r) (a:Int)=x at hx hnx
  have hst':=hnx.state hv
  have eP:=prop_Push_eq (k:=k) hv hk hst x
  rw[dB_T hnx,if_pos rfl] at eP
  have eP':prop_Prop_Push k (PropProp.mk (setOf v L P) (lvsL v L P r) r) x=_:=eP
  have hat:s≤t.length∧s≤100000:=by unfold szC at hs;split at hs <;> omega
  obtain⟨r2,st2,eL,hL⟩:=look2_eq (k:=k) (r:=r++[x]) (m:=m) (t:=t) hv hk hst' hat.2 (st:=st++[CertRow.mk (rowL v L P r) ((a+1:Nat):Int)]) (by rw[List.length_append,List.length_singleton];omega) htl hat.1
  have eM:=more_eq (m:=m) hv hk hst'
  have hup:upR (r++[x])=r:=upR_snoc
  rw[hup] at hL
  refine⟨r2,st2,fun n=>?_,fun hg=>?_⟩
  ·have hwa:wr (wr ((a:Int)+1)-1)=(a:Int):=by rw[wr_id (x:=(a:Int)+1) (by omega) (by omega),wr_id (by omega) (by omega)];omega
   rw[cert_walk_all_look_l0,h1,h2,h3,h4,cond_true,bindS rfl,decide_eq_true (by rw[List.length_append,List.length_singleton];omega),cond_true,len_st hsl,bindS top_st]
   dsimp only
   rw[condN (by omega),hwa,bindS hx,bindS eP',wr_succ (by omega),Int.toNat_natCast,set_st]
   dsimp only
   have eM':(Option.bind (prop_Prop_Depth k (PropProp.mk (setOf v L P) (lvsL v L P (r++[x])) (r++[x]))) fun r114=>cond (decide (r114=(L.length:Int))) (Option.bind (prop_Prop_Most k (PropProp.mk (setOf v L P) (lvsL v L P (r++[x])) (r++[x]))) fun r117=>some (decide (m < r117))) (some false))=_:=eM
   have eL':cert_walk_look k (CertWalk.mk (PropProp.mk (setOf v L P) (lvsL v L P (r++[x])) (r++[x])) (L.length:Int) m t (s:Int) (st++[CertRow.mk (rowL v L P r) ((a+1:Nat):Int)]))=_:=eL
   rw[bindS eM',bindS eL']
   dsimp only
   unfold lok
   by_cases hl:(r++[x]).length=L.length
   ·rw[if_pos hl,if_pos hl,if_pos hl,if_pos hl,cond_true,Bool.not_not]
   ·rw[if_neg hl,if_neg hl,if_neg hl,if_neg hl]
    cases (ndC v L P m t (r++[x]) s).2.1
    ·rw[cond_false]
    ·rw[cond_true];rfl
  ·unfold lok at hg ⊢
   by_cases hl:(r++[x]).length=L.length
   ·rw[if_pos hl] at hg hL ⊢
    rw[if_neg (by simp)]
    exact hL
   ·rw[if_neg hl] at hg hL ⊢
    exact hL hg
theorem need_eq (hv:Small k v) (hk:1000 < k) (hst:StateP v L P r) {w:List Bool} (hw:w.length≤100000) {st:List CertRow} (hsl:st.length≤2000) {ta:Int} : ∃r2 st2,cert_walk_need_f1000 k (CertWalk.mk (mkP v L P r) (L.length:Int) m w ta st)=some (true,lvsL v L P r2,r2,(if r.length=L.length then w else (ndN v L P m r w).1),st2) ∧
  (if r.length=L.length then r2=upR r∧st2=st else if (ndN v L P m r w).2.2=true then r2=r∧st2=st++[CertRow.mk (rowL v L P r) 0] else r2=upR r∧st2=st):=by
 have h1:=hst.inn.2.2.1
 have h2:=hst.len
 have gF:∀ {n s:Int} {t:List Bool} {a:Int} {st:List CertRow},cert_walk_goOn_f1000 k (CertWalk.mk (mkP v L P r) n s t a st) false=some (lvsL v L P (upR r),upR r,st):=goOn_F (by omega)
 unfold cert_walk_need_f1000
 dsimp only
 rw[bindS prop_Depth_eq]
 by_cases hr:r.length=L.length
 ·rw[condD (by omega),bindS gF,if_pos hr]
  exact⟨upR r,st,rfl,by rw[if_pos hr];exact⟨rfl,rfl⟩⟩
 ·rw[condN (by omega),if_neg hr,bindS (prop_Most_eq hv hk hst),gdD (by simp only[List.length_singleton];omega)]
  unfold ndN
  by_cases h3:m < mostN v L P r L.length
  ·have gT:cert_walk_goOn_f1000 k (CertWalk.mk (mkP v L P r) (L.length:Int) m (w++[true]) ta st) true=some (lvsL v L P r,r,st++[CertRow.mk (rowL v L P r) 0]):=goOn_T hst (by omega) hsl
   rw[decide_eq_true h3,bindS gT,if_pos h3]
   exact⟨r,st++[CertRow.mk (rowL v L P r) 0],rfl,by rw[if_neg hr,if_pos rfl];exact⟨rfl,rfl⟩⟩
  ·rw[decide_eq_false h3,bindS gF,if_neg h3]
   exact⟨upR r,st,rfl,by rw[if_neg hr,if_neg (by simp)];exact⟨rfl,rfl⟩⟩
theorem need_mach (hv:Small k v) (hk:1000 < k) {a0:CertWalk} (h1:a0.p.s=setOf v L P) (h2:a0.n=(L.length:Int)) (h3:a0.seats=m):CMach v L P (ndN v L P m) (lfC v L P m) List.length (fun w:List Bool=>w) (cert_walk_all_f1000_need_l0 k a0):=by
 refine⟨fun n r s st hr hsl=>?_,fun r s st a ha hst hr hsl hs=>?_⟩
 ·obtain⟨b,eP⟩:=pop_up (k:=k) (v:=v) (L:=L) (P:=P) hr
  have eP':prop_Prop_Pop k (PropProp.mk (setOf v L P) (lvsL v L P r) r)=_:=eP
  rw[cert_walk_all_f1000_need_l0,h1,cond_true,bindS rfl,decide_eq_true (by rw[List.length_append,List.length_singleton];omega),cond_true,len_st hsl,bindS top_st]
  dsimp only
  rw[condD rfl,gdD (by rw[List.length_append,List.length_singleton];omega),bindS eP',Int.toNat_natCast,List.take_left' rfl]
 ·have hlen:=hst.inn.2.2.1
  have hx:idx (rowL v L P r) (a:Int)=some (aI (rowL v L P r) (a:Int)):=idx_aI (by omega) (by omega)
  have hnx:=rowL_next hv hst hr (aI_mem (l:=rowL v L P r) (x:=(a:Int)) (by omega) (by omega))
  have hrl:=rowL_len (v:=v) (L:=L) (P:=P) (r:=r)
  have hvs:=hv.hs
  have hvb:=hv.b
  generalize aI (rowL v L P r) (a:Int)=x at hx hnx
  have hst':=hnx.state hv
  have eP:=prop_Push_eq (k:=k) hv hk hst x
  rw[dB_T hnx,if_pos rfl] at eP
  have eP':prop_Prop_Push k (PropProp.mk (setOf v L P) (lvsL v L P r) r) x=_:=eP
  obtain⟨r2,st2,eL,hL⟩:=need_eq (k:=k) (r:=r++[x]) (m:=m) hv hk hst' hs (st:=st++[CertRow.mk (rowL v L P r) ((a+1:Nat):Int)]) (by rw[List.length_append,List.length_singleton];omega) (ta:=a0.taken)
  have eM:=more_eq (m:=m) hv hk hst'
  have hup:upR (r++[x])=r:=upR_snoc
  rw[hup] at hL
  have hnd:(ndN v L P m (r++[x]) s).2.1=true:=by unfold ndN;split <;> rfl
  refine⟨r2,st2,fun n=>?_,fun hg=>?_⟩
  ·have hwa:wr (wr ((a:Int)+1)-1)=(a:Int):=by rw[wr_id (x:=(a:Int)+1) (by omega) (by omega),wr_id (by omega) (by omega)];omega
   rw[cert_walk_all_f1000_need_l0,h1,h2,h3,cond_true,bindS rfl,decide_eq_true (by rw[List.length_append,List.length_singleton];omega),cond_true,len_st hsl,bindS top_st]
   dsimp only
   rw[condN (by omega),hwa,bindS hx,bindS eP',wr_succ (by omega),Int.toNat_natCast,set_st]
   dsimp only
   have eM':(Option.bind (prop_Prop_Depth k (PropProp.mk (setOf v L P) (lvsL v L P (r++[x])) (r++[x]))) fun r114=>cond (decide (r114=(L.length:Int))) (Option.bind (prop_Prop_Most k (PropProp.mk (setOf v L P) (lvsL v L P (r++[x])) (r++[x]))) fun r117=>some (decide (m < r117))) (some false))=_:=eM
   have eL':cert_walk_need_f1000 k (CertWalk.mk (PropProp.mk (setOf v L P) (lvsL v L P (r++[x])) (r++[x])) (L.length:Int) m s a0.taken (st++[CertRow.mk (rowL v L P r) ((a+1:Nat):Int)]))=_:=eL
   rw[bindS eM',bindS eL']
   dsimp only
   rw[cond_true]
   unfold lok
   by_cases hl:(r++[x]).length=L.length
   ·rw[if_pos hl,if_pos hl,if_pos hl,Bool.not_not]
   ·rw[if_neg hl,if_neg hl,if_neg hl,hnd]
    rfl
  ·unfold lok at hg ⊢
   by_cases hl:(r++[x]).length=L.length
   ·rw[if_pos hl] at hg hL ⊢
    rw[if_neg (by simp)]
    exact hL
   ·rw[if_neg hl] at hg hL ⊢
    exact hL
end
end Go.Px

set_option linter.unusedVariables false
set_option linter.unusedSimpArgs false
namespace Go.Px
open Go Go.Sh
section
variable {k:Nat} {v:Venue} {L:List Party} {P:List Pin} {r:List Int} {fuel m:Int} {t:List Bool}
theorem bN_4 {d:Nat} (h:d≤4):bN d≤1111:=by
 have:d=0∨d=1∨d=2∨d=3∨d=4:=by omega
 rcases this with rfl | rfl | rfl | rfl | rfl <;> decide
noncomputable def chkR (v:Venue) (L:List Party) (P:List Pin) (r:List Int) (t:List Bool):Nat×Bool:=chk v L P (seatN L r L.length) t L.length [] 0
noncomputable def chkB (v:Venue) (L:List Party) (P:List Pin) (r:List Int) (t:List Bool):Bool:=dB (chkR v L P r t=(t.length,true))
noncomputable def nedR (v:Venue) (L:List Party) (P:List Pin) (r:List Int):List Bool×Bool:=ned v L P (seatN L r L.length) L.length [] []
noncomputable def nedL (v:Venue) (L:List Party) (P:List Pin) (r:List Int):List Bool:=if dB (PlanP v L P r)=true then (if (nedR v L P r).2=true then (nedR v L P r).1 else []) else []
theorem root_lf (hm:0≤m) (h:([]:List Int).length=L.length):lfC v L P m []=true:=by
 unfold lfC
 rw[← h]
 exact dB_T hm
theorem all_look_eq (hc:BCtx v L P) (hm:0≤m) (htl:t.length≤100000):∃lv p st,cert_walk_all_look 20000 (CertWalk.mk (mkP v L P []) (L.length:Int) m t 0 [])=some ((chk v L P m t L.length [] 0).2,lv,p,((chk v L P m t L.length [] 0).1:Int),st):=by
 have hv:=hc.small
 have h4:=hc.pr.l4
 have hst:=StateP_nil (hc.pr.inn hc.ok)
 have hM:=look_mach (k:=20000) (L:=L) (P:=P) (m:=m) (t:=t) hv (by omega) htl (a0:=CertWalk.mk (mkP v L P []) (L.length:Int) m t 0 []) rfl rfl rfl rfl
 have hB:=bN_4 h4
 have hS:=stepsB_4 h4
 obtain⟨r2,st2,eL,hL⟩:=look2_eq (k:=20000) (r:=[]) (m:=m) (t:=t) (a:=0) hv (by omega) hst (by omega) (st:=[]) (by simp) htl (by omega)
 have e0:szC t 0=0:=if_pos (by omega)
 obtain⟨c,r3,st3,b1,b2,b3⟩:=cmach_main hM szC_nd hv hc.pr.n1 L.length [] 0 [] r2 st2 (by simp) hst (by rw[e0];omega) (by simp) (by
  unfold AfterP lok
  by_cases hl:([]:List Int).length=L.length
  ·rw[if_pos hl] at hL ⊢
   intro _
   rw[if_neg (by simp)]
   exact hL
  ·rw[if_neg hl] at hL ⊢
   exact hL)
 rw[wlk_chk] at b2 b3
 have eL:cert_walk_look 20000 (CertWalk.mk (mkP v L P []) (L.length:Int) m t 0 [])=_:=eL
 have e:=b2 (20000-c)
 rw[show 20000-c+c=20000 by omega] at e
 obtain⟨n,hn⟩:∃n,20000-c=n+1:=⟨20000-c-1,by omega⟩
 rw[hn] at e
 have hend:cert_walk_all_look_l0 20000 (CertWalk.mk (mkP v L P []) (L.length:Int) m t 0 []) (n+1) (lvsL v L P r3) r3 ((chk v L P m t L.length [] 0).1:Int) st3 (chk v L P m t L.length [] 0).2=some (lvsL v L P r3,r3,((chk v L P m t L.length [] 0).1:Int),st3,(chk v L P m t L.length [] 0).2):=by
  rw[cert_walk_all_look_l0]
  cases hq:(chk v L P m t L.length [] 0).2
  ·rw[cond_false,bindS rfl,cond_false]
  ·rw[(b3 hq).2,cond_true,bindS rfl,decide_eq_false (by simp),cond_false]
 have e2:cert_walk_all_look_l0 20000 (CertWalk.mk (mkP v L P []) (L.length:Int) m t 0 []) 20000 (lvsL v L P r2) r2 ((lok L (ndC v L P m t) (lfC v L P m) [] 0).1:Int) st2 (lok L (ndC v L P m t) (lfC v L P m) [] 0).2.1=_:=e.trans hend
 unfold cert_walk_all_look
 rw[bindS eL]
 dsimp only
 have e3:(if ([]:List Int).length=L.length then true else (ndC v L P m t [] 0).2.1)=(lok L (ndC v L P m t) (lfC v L P m) [] 0).2.1∧(if ([]:List Int).length=L.length then 0 else (ndC v L P m t [] 0).1)=(lok L (ndC v L P m t) (lfC v L P m) [] 0).1:=by
  unfold lok
  by_cases hl:([]:List Int).length=L.length
  ·rw[if_pos hl,if_pos hl,if_pos hl]
   exact⟨(root_lf hm hl).symm,rfl⟩
  ·rw[if_neg hl,if_neg hl,if_neg hl]
   exact⟨rfl,rfl⟩
 rw[e3.1,e3.2,bindS e2]
 exact⟨_,_,_,rfl⟩
theorem all_need_eq (hc:BCtx v L P) (hm:0≤m):∃lv p st,cert_walk_all_f1000_need 20000 (CertWalk.mk (mkP v L P []) (L.length:Int) m [] 0 [])=some ((ned v L P m L.length [] []).2,lv,p,(ned v L P m L.length [] []).1,st):=by
 have hv:=hc.small
 have h4:=hc.pr.l4
 have hst:=StateP_nil (hc.pr.inn hc.ok)
 have hM:=need_mach (k:=20000) (L:=L) (P:=P) (m:=m) hv (by omega) (a0:=CertWalk.mk (mkP v L P []) (L.length:Int) m [] 0 []) rfl rfl rfl
 have hB:=bN_4 h4
 have hS:=stepsB_4 h4
 obtain⟨r2,st2,eL,hL⟩:=need_eq (k:=20000) (r:=[]) (m:=m) (w:=[]) hv (by omega) hst (by simp) (st:=[]) (by simp) (ta:=0)
 have hnd:(ndN v L P m [] []).2.1=true:=by unfold ndN;split <;> rfl
 obtain⟨c,r3,st3,b1,b2,b3⟩:=cmach_main hM (fun r s=>by unfold ndN;split <;> simp) hv hc.pr.n1 L.length [] [] [] r2 st2 (by simp) hst (by show 0+bN L.length≤100000;omega) (by simp) (by
  unfold AfterP lok
  by_cases hl:([]:List Int).length=L.length
  ·rw[if_pos hl] at hL ⊢
   intro _
   rw[if_neg (by simp)]
   exact hL
  ·rw[if_neg hl] at hL ⊢
   intro _
   exact hL)
 rw[wlk_ned] at b2 b3
 have e:=b2 (20000-c)
 rw[show 20000-c+c=20000 by omega] at e
 obtain⟨n,hn⟩:∃n,20000-c=n+1:=⟨20000-c-1,by omega⟩
 rw[hn] at e
 have hend:cert_walk_all_f1000_need_l0 20000 (CertWalk.mk (mkP v L P []) (L.length:Int) m [] 0 []) (n+1) (lvsL v L P r3) r3 (ned v L P m L.length [] []).1 st3 (ned v L P m L.length [] []).2=some (lvsL v L P r3,r3,(ned v L P m L.length [] []).1,st3,(ned v L P m L.length [] []).2):=by
  rw[cert_walk_all_f1000_need_l0]
  cases hq:(ned v L P m L.length [] []).2
  ·rw[cond_false,bindS rfl,cond_false]
  ·rw[(b3 hq).2,cond_true,bindS rfl,decide_eq_false (by simp),cond_false]
 have e2:cert_walk_all_f1000_need_l0 20000 (CertWalk.mk (mkP v L P []) (L.length:Int) m [] 0 []) 20000 (lvsL v L P r2) r2 (lok L (ndN v L P m) (lfC v L P m) [] []).1 st2 (lok L (ndN v L P m) (lfC v L P m) [] []).2.1=_:=e.trans hend
 unfold cert_walk_all_f1000_need
 rw[bindS eL]
 dsimp only
 have e3:true=(lok L (ndN v L P m) (lfC v L P m) [] []).2.1∧(if ([]:List Int).length=L.length then [] else (ndN v L P m [] []).1)=(lok L (ndN v L P m) (lfC v L P m) [] []).1:=by
  unfold lok
  by_cases hl:([]:List Int).length=L.length
  ·rw[if_pos hl,if_pos hl]
   exact⟨(root_lf hm hl).symm,rfl⟩
  ·rw[if_neg hl,if_neg hl]
   exact⟨hnd.symm,rfl⟩
 rw[e3.2,e3.1,bindS e2]
 exact⟨_,_,_,rfl⟩
theorem seatN_0 (hc:BCtx v L P):0≤seatN L r L.length:=(seatN_bd hc.pr.all (r:=r) (Nat.le_refl _)).1
theorem check_eq (hc:BCtx v L P) (hr:∀i:Nat,i < r.length→okI (aI r (i:Int))) (htl:t.length≤100000):cert_Check 20000 v L P r t=some (if dB (PlanP v L P r)=true then (if chkB v L P r t=true then ((t.length:Int),0) else (0,10)) else (0,1)):=by
 have hv:=hc.small
 have h4:=hc.pr.l4
 have hP4:=hc.l4
 have hI:=hc.pr.inn hc.ok
 have eM:=plan_May_eq (L:=L) hv (by omega) (by omega) (by omega) (pins_ok hv hc.ok) hr
 unfold cert_Check cert_in
 rcases Classical.em (PlanP v L P r) with h | h
 ·have eN:=prop_New_eq (k:=20000) (L:=L) (P:=P) hv (by omega) (by omega) (by omega) (pins_ok hv hc.ok)
  rw[dB_T hI,if_pos rfl] at eN
  rw[dB_T h] at eM ⊢
  obtain⟨lv,p,st,eA⟩:=all_look_eq (t:=t) hc (seatN_0 hc (r:=r)) htl
  have hle:=chk_le (v:=v) (L:=L) (P:=P) (m:=seatN L r L.length) (t:=t) L.length [] 0 (by omega)
  rw[bindS eM,cNT,bindS eN]
  dsimp only
  rw[optc_some,bindS (plan_Seated_eq hc.pr.all (by omega) (by omega) h.len),bindS rfl]
  dsimp only
  rw[optc_some,cNT,List.take_nil,bindS eA,if_pos rfl]
  dsimp only
  unfold chkB chkR
  cases hq:(chk v L P (seatN L r L.length) t L.length [] 0).2
  ·rw[cNF,dB_F (fun h=>by rw[h] at hq;cases hq),if_neg (by simp)]
  ·rw[cNT]
   by_cases hl:(chk v L P (seatN L r L.length) t L.length [] 0).1=t.length
   ·rw[condN (by omega),dB_T (Prod.ext hl hq),if_pos rfl,hl]
   ·rw[condD (by omega),dB_F (fun h=>hl (by rw[h])),if_neg (by simp)]
 ·rw[dB_F h] at eM ⊢
  rw[bindS eM,cNF,bindS rfl,optc_none,cNF,if_neg (by simp)]
theorem holds_eq (hc:BCtx v L P) (hr:∀i:Nat,i < r.length→okI (aI r (i:Int))) (htl:t.length≤100000):cert_Holds 20000 v L P r t=some (dB (PlanP v L P r) && chkB v L P r t):=by
 unfold cert_Holds
 rw[bindS (check_eq hc hr htl)]
 cases dB (PlanP v L P r)
 ·rfl
 ·cases chkB v L P r t <;> rfl
theorem need_eq2 (hc:BCtx v L P) (hr:∀i:Nat,i < r.length→okI (aI r (i:Int))):cert_Need 20000 v L P r=some (nedL v L P r):=by
 have hv:=hc.small
 have h4:=hc.pr.l4
 have hP4:=hc.l4
 have hI:=hc.pr.inn hc.ok
 have eM:=plan_May_eq (L:=L) hv (by omega) (by omega) (by omega) (pins_ok hv hc.ok) hr
 unfold cert_Need cert_in_n4 nedL nedR
 rcases Classical.em (PlanP v L P r) with h | h
 ·have eN:=prop_New_eq (k:=20000) (L:=L) (P:=P) hv (by omega) (by omega) (by omega) (pins_ok hv hc.ok)
  rw[dB_T hI,if_pos rfl] at eN
  rw[dB_T h] at eM ⊢
  obtain⟨lv,p,st,eA⟩:=all_need_eq hc (seatN_0 hc (r:=r))
  rw[bindS eM,cNT,bindS eN]
  dsimp only
  rw[optc_some,bindS (plan_Seated_eq hc.pr.all (by omega) (by omega) h.len),bindS rfl]
  dsimp only
  rw[optc_some,cNT,List.take_nil,List.take_nil,bindS eA,if_pos rfl]
  dsimp only
  cases (ned v L P (seatN L r L.length) L.length [] []).2
  ·rw[cNF,if_neg (by simp)]
  ·rw[cNT,if_pos rfl]
 ·rw[dB_F h] at eM ⊢
  rw[bindS eM,cNF,bindS rfl,optc_none,cNF,if_neg (by simp)]
/- what they mean -/
theorem ned_len (hc:BCtx v L P):(nedR v L P r).1.length≤1111:=by
 have h:=wlk_sz (v:=v) (L:=L) (P:=P) hc.pr.n1 (nd:=ndN v L P (seatN L r L.length)) (lf:=lfC v L P (seatN L r L.length)) (sz:=List.length) (fun r s=>by unfold ndN;split <;> simp) L.length [] []
 rw[wlk_ned] at h
 have hB:=bN_4 hc.pr.l4
 have h:(nedR v L P r).1.length≤0+bN L.length:=h
 omega
theorem nedL_len (hc:BCtx v L P):(nedL v L P r).length≤1111:=by
 have:=ned_len hc (r:=r)
 unfold nedL
 split
 ·split
  ·exact this
  ·simp
 ·simp
end
end Go.Px

set_option linter.unusedVariables false
set_option linter.unusedSimpArgs false
namespace Go.Px
open Go Go.Sh
section
variable {k:Nat} {v:Venue} {L:List Party} {P:List Pin} {r:List Int} {fuel m:Int} {t:List Bool} {σ:Type}
theorem cond_self' {α:Type} {c:Bool} {a : α} : cond c a a=a:=by cases c <;> rfl
theorem rowC_app {f:Int → σ → σ×Bool} : ∀(l l2:List Int) (s : σ),rowC f (l++l2) s=if (rowC f l s).2=true then rowC f l2 (rowC f l s).1 else rowC f l s
 | [],l2,s=>rfl
 | x::xs,l2,s=>by
  rw[List.cons_append,rowC,rowC]
  by_cases h:(f x s).2=true
  ·rw[if_pos h,if_pos h]
   exact rowC_app xs l2 _
  ·rw[if_neg h,if_neg h,if_neg h]
theorem rowC_one {f:Int → σ → σ×Bool} {x:Int} {s : σ} : rowC f [x] s=f x s:=by
 rw[rowC]
 split
 ·rename_i h
  exact Prod.ext rfl h.symm
 ·rfl
theorem ref6_Hall_Most_eq (hv:Small k v) (hk:1000 < k) (hL:L.length < k) (hP:P.length < k) (hrk:r.length < k) (h:StateP v L P r):ref6_Hall_Most k (Ref6Hall.mk v (usL v)) L r P=some (mostN v L P r L.length):=by
 have hb:=hv.b
 have e2:=most_gen h (f:=fun n c i=>ref6_Hall_Most_l0 k (Ref6Hall.mk v (usL v)) L r P n c i) (op:=fun i=>ref6_Hall_Open k (Ref6Hall.mk v (usL v)) L r P i) (fun i hi=>ref6_Open_eq hv hk h hrk hP hi)
  (fun n i c hi=>by
   show ref6_Hall_Most_l0 k (Ref6Hall.mk v (usL v)) L r P (n+1) c (i:Int)=_
   rw[ref6_Hall_Most_l0,condD (by omega),bindS (idx_aI (l:=L) (by omega) (by omega)),wr_succ (by omega)])
  (fun n c=>by
   show ref6_Hall_Most_l0 k (Ref6Hall.mk v (usL v)) L r P (n+1) c (L.length:Int)=_
   rw[ref6_Hall_Most_l0,condN (by omega)]) L.length k 0 (by omega) (by omega)
 have e2:ref6_Hall_Most_l0 k (Ref6Hall.mk v (usL v)) L r P k 0 0=_:=e2
 unfold ref6_Hall_Most
 rw[bindS e2]
theorem ref15_pinned_eq (hP:RiseP P) (hk:P.length < k) (hb:k≤4294967290) (x:Int):ref15_pinned k P x=some ((pinAt P x).isSome):=by
 unfold ref15_pinned
 have e:=scanB (F:=fun n i=>ref15_pinned_l0 k P x n (i:Int)) (len:=P.length) (k:=k) (fun i=>¬(aI P (i:Int)).Party=x) (t:=()) (r:=true)
  (fun n i hi _ hg=>by
   rw[ref15_pinned_l0,condD (by omega),bindS (idx_aI (by omega) (by omega)),condN hg,wr_succ (by omega)])
  (fun n i hi _ hg=>by
   rw[ref15_pinned_l0,condD (by omega),bindS (idx_aI (by omega) (by omega)),condD (Classical.not_not.1 hg)])
  (fun n _=>by
   rw[ref15_pinned_l0,condN (by omega)]) hk
 have e:ref15_pinned_l0 k P x k 0=_:=e
 rw[bindS e]
 rcases Classical.em (∀i:Nat,i < P.length→¬(aI P (i:Int)).Party=x) with h | h
 ·rw[dB_T h,if_pos rfl,elim_go]
  cases hp:pinAt P x with
  | none=>rfl
  | some f =>
   obtain⟨i,h1,h2,_⟩:=pinAt_some hp
   exact absurd h2 (h i h1)
 ·rw[dB_F h,if_neg (by simp),elim_rt]
  obtain⟨i,hi⟩:=Classical.not_forall.1 h
  obtain⟨h1,h2⟩:=Classical.not_imp.1 hi
  rw[← Classical.not_not.1 h2,pinAt_get hP h1]
  rfl
theorem checker_l0 {a0:Ref15Checker} {o:List Int} (ho:o.length≤1000) (hrl:r.length≤1000) {rec_:Ref15Checker→List Int→Option (Bool×Int)} {f:Int→Nat→Nat×Bool}
  (hf:∀x a,a≤t.length→a≤(f x a).1∧(f x a).1≤t.length) (hrec:∀x,x ∈ o→∀a,a≤t.length→rec_ (Ref15Checker.mk a0.H a0.L a0.Pins a0.Most a0.T (a:Int)) (r++[x])=some ((f x a).2,((f x a).1:Int))):∀(e n i a:Nat),i+e=o.length→e < n→a≤t.length →
  ref15_Checker_look_l0 k a0 r o rec_ n (a:Int) (i:Int)=some (if (rowC f (o.drop i) a).2=true then Ex.go ((rowC f (o.drop i) a).1:Int) else Ex.rt (false,((rowC f (o.drop i) a).1:Int)))
 | e,0,i,a,_,h,_=>absurd h (by omega)
 | 0,n+1,i,a,hi,_,ha=>by
  rw[ref15_Checker_look_l0,condN (by omega),List.drop_eq_nil_of_le (by omega),rowC,if_pos rfl]
 | e+1,n+1,i,a,hi,hd,ha=>by
  have hm:=aI_mem (l:=o) (x:=(i:Int)) (by omega) (by omega)
  rw[ref15_Checker_look_l0,condD (by omega),gdD (by simp only[List.length_nil];omega),bindS (idx_aI (by omega) (by omega)),List.nil_append,gdD (by simp only[List.length_singleton];omega),drop_aI (by omega),rowC]
  generalize aI o (i:Int)=x at hm
  have h2:=(hf x a ha).2
  rw[bindS (hrec x hm a ha)]
  dsimp only
  cases hq:(f x a).2
  ·have e:∀A:Nat×Bool,(if false=true then A else f x a)=f x a:=fun A=>if_neg (by simp)
   rw[cNF,e,hq,if_neg (by simp)]
  ·rw[cNT,if_pos rfl,wr_succ (by omega)]
   exact checker_l0 ho hrl hf hrec e n (i+1) (f x a).1 (by omega) (by omega) h2
theorem checker_eq (hc:BCtx v L P) (htl:t.length≤100000):∀(d k:Nat) (r:List Int) (a:Nat),1001+d < k→k≤20000→r.length+d=L.length→StateP v L P r→a≤t.length→ref15_Checker_look k (Ref15Checker.mk (Ref6Hall.mk v (usL v)) L P m t (a:Int)) r=some ((chk v L P m t d r a).2,((chk v L P m t d r a).1:Int))
 | d,0,r,a,h,_,_,_,_=>absurd h (by omega)
 | 0,k+1,r,a,hk,hk2,hr,hst,ha=>by
  have h4:=hc.pr.l4
  rw[ref15_Checker_look]
  dsimp only
  rw[condD (by omega),bindS (ref6_Seated_eq hc.pr.all (by omega) (by omega) (show r.length=L.length by omega)),chk,most_full (r:=r) (L:=L) (by omega) _ (Nat.le_refl _),dB_dec]
 | d+1,k+1,r,a,hk,hk2,hr,hst,ha=>by
  have h4:=hc.pr.l4
  have hP4:=hc.l4
  have hv:Small k v:=hc.pr.small (by omega) (by omega)
  have hn1:=hc.pr.n1
  have hol:=openL_len (v:=v) (L:=L) (P:=P) (r:=r) (i:=(r.length:Int))
  rw[ref15_Checker_look]
  dsimp only
  rw[condN (by omega),chk]
  by_cases h1:t.length≤a
  ·rw[condD (by omega),if_pos h1]
  ·rw[condN (by omega),if_neg h1,wr_succ (by omega),wr_pred (by omega) (by omega),Nat.add_sub_cancel,bindS (idx_aI (by omega) (by omega))]
   cases h2:aI t (a:Int)
   ·rw[cNF,bindS (ref6_Hall_Most_eq hv (by omega) (by omega) (by omega) (by omega) hst),if_neg (by simp),dB_dec]
   ·rw[cNT,bindS (ref6_Open_eq hv (by omega) hst (by omega) (by omega) ⟨by omega,by omega⟩),if_pos rfl]
    have hrec:∀x,x ∈ rowL v L P r→∀a,a≤t.length→ref15_Checker_look k (Ref15Checker.mk (Ref6Hall.mk v (usL v)) L P m t (a:Int)) (r++[x])=some ((chk v L P m t d (r++[x]) a).2,((chk v L P m t d (r++[x]) a).1:Int)):=fun x hx a ha=>checker_eq hc htl d k (r++[x]) a (by omega) (by omega) (by rw[List.length_append,List.length_singleton];omega) ((rowL_next hv hst (by omega) hx).state hv) ha
    have e0:=checker_l0 (k:=k) (t:=t) (r:=r) (a0:=Ref15Checker.mk (Ref6Hall.mk v (usL v)) L P m t (a:Int)) (o:=openL v L P r (r.length:Int)) (rec_:=ref15_Checker_look k) (f:=fun x a=>chk v L P m t d (r++[x]) a) (by omega) (by omega) (fun x a ha=>chk_le d (r++[x]) a ha) (fun x hx a ha=>hrec x (List.mem_append_left _ hx) a ha) (openL v L P r (r.length:Int)).length k 0 (a+1) (by omega) (by omega) (by omega)
    rw[List.drop_zero] at e0
    have e0:ref15_Checker_look_l0 k (Ref15Checker.mk (Ref6Hall.mk v (usL v)) L P m t (a:Int)) r (openL v L P r (r.length:Int)) (ref15_Checker_look k) k ((a+1:Nat):Int) 0=_:=e0
    rw[bindS e0]
    have hle:=rowC_le (f:=fun x a=>chk v L P m t d (r++[x]) a) (n:=t.length) (fun x a ha=>chk_le d (r++[x]) a ha) (openL v L P r (r.length:Int)) (a+1) (by omega)
    have hrl:rowL v L P r=openL v L P r (r.length:Int)++(if (pinAt P (r.length:Int)).isSome=true then [] else [-1]):=rfl
    rw[hrl,rowC_app]
    rw[hrl] at hrec
    generalize rowC (fun x a=>chk v L P m t d (r++[x]) a) (openL v L P r (r.length:Int)) (a+1)=q at hle
    obtain⟨b,g⟩:=q
    cases g
    ·rw[if_neg (by simp),elim_rt,if_neg (by simp)]
    ·rw[if_pos rfl,elim_go,if_pos rfl,bindS (ref15_pinned_eq hc.ok.rise (by omega) (by omega) _)]
     cases hp:(pinAt P (r.length:Int)).isSome
     ·rw[hp] at hrec
      rw[cond_false,if_neg (by simp),rowC_one,gdD (by simp only[List.length_nil];omega),List.nil_append,gdD (by simp only[List.length_singleton];omega),bindS (hrec (-1) (by simp) b hle.2)]
     ·rw[cond_true,if_pos rfl]
      rfl
theorem ned_sz (hc:BCtx v L P) {d:Nat} {w:List Bool} : (ned v L P m d r w).1.length≤w.length+bN d:=by
 have h:=wlk_sz (v:=v) (L:=L) (P:=P) hc.pr.n1 (nd:=ndN v L P m) (lf:=lfC v L P m) (sz:=List.length) (fun r s=>by unfold ndN;split <;> simp) d r w
 rw[wlk_ned] at h
 exact h
theorem needer_l0 {a0:Ref15Needer} {o:List Int} {b:Nat} (ho:o.length≤1000) (hrl:r.length≤1000) {rec_:Ref15Needer→List Int→Option (List Bool×Bool)} {f:Int→List Bool→List Bool×Bool}
  (hf:∀x w,(f x w).1.length≤w.length+b) (hrec:∀x,x ∈ o→∀w,w.length+b≤100000→rec_ (Ref15Needer.mk a0.C w false) (r++[x])=some ((f x w).1,!(f x w).2)):∀(e n i:Nat) (w:List Bool),i+e=o.length→e < n→w.length+e * b≤100000 →
  ref15_Needer_look_l0 k a0 r o rec_ n w false (i:Int)=some ((rowC f (o.drop i) w).1,!(rowC f (o.drop i) w).2)
 | e,0,i,w,_,h,_=>absurd h (by omega)
 | 0,n+1,i,w,hi,_,hw=>by
  rw[ref15_Needer_look_l0,condN (by omega),List.drop_eq_nil_of_le (by omega),rowC]
  rfl
 | e+1,n+1,i,w,hi,hd,hw=>by
  rw[Nat.succ_mul] at hw
  have hm:=aI_mem (l:=o) (x:=(i:Int)) (by omega) (by omega)
  rw[ref15_Needer_look_l0,condD (by omega),cNF,gdD (by simp only[List.length_nil];omega),bindS (idx_aI (by omega) (by omega)),List.nil_append,gdD (by simp only[List.length_singleton];omega),drop_aI (by omega),rowC]
  generalize aI o (i:Int)=x at hm
  have h2:=hf x w
  rw[bindS (hrec x hm w (by omega))]
  dsimp only
  cases hq:(f x w).2
  ·obtain⟨n,rfl⟩:∃j,n=j+1:=⟨n-1,by omega⟩
   have e:∀A:List Bool×Bool,(if false=true then A else f x w)=f x w:=fun A=>if_neg (by simp)
   rw[e,hq,wr_succ (by omega),ref15_Needer_look_l0,Bool.not_false,cNT,cond_self']
  ·rw[if_pos rfl,wr_succ (by omega)]
   exact needer_l0 ho hrl hf hrec e n (i+1) (f x w).1 (by omega) (by omega) (by omega)
theorem needer_eq (hc:BCtx v L P) {tt:List Bool} {aa:Int} : ∀(d k:Nat) (r:List Int) (w:List Bool),1001+d < k→k≤20000→r.length+d=L.length→StateP v L P r→w.length+bN d≤100000→ref15_Needer_look k (Ref15Needer.mk (Ref15Checker.mk (Ref6Hall.mk v (usL v)) L P m tt aa) w false) r=some ((ned v L P m d r w).1,!(ned v L P m d r w).2)
 | d,0,r,w,h,_,_,_,_=>absurd h (by omega)
 | 0,k+1,r,w,hk,hk2,hr,hst,hw=>by
  have h4:=hc.pr.l4
  rw[ref15_Needer_look]
  dsimp only
  rw[condD (by omega)]
  rw[cond_false,bindS (ref6_Seated_eq hc.pr.all (by omega) (by omega) (show r.length=L.length by omega)),ned,most_full (r:=r) (L:=L) (by omega) _ (Nat.le_refl _)]
  by_cases h:m < seatN L r L.length
  ·rw[decide_eq_true h,dB_F (by omega)];rfl
  ·rw[decide_eq_false h,dB_T (by omega)];rfl
 | d+1,k+1,r,w,hk,hk2,hr,hst,hw=>by
  have h4:=hc.pr.l4
  have hP4:=hc.l4
  have hv:Small k v:=hc.pr.small (by omega) (by omega)
  have hn1:=hc.pr.n1
  have hol:=openL_len (v:=v) (L:=L) (P:=P) (r:=r) (i:=(r.length:Int))
  have hro:=rowL_len (v:=v) (L:=L) (P:=P) (r:=r)
  rw[bN] at hw
  rw[ref15_Needer_look]
  dsimp only
  rw[condN (by omega),ned]
  rw[bindS (ref6_Hall_Most_eq hv (by omega) (by omega) (by omega) (by omega) hst),gdD (by simp only[List.length_singleton];omega)]
  by_cases h1:m < mostN v L P r L.length
  ·rw[condN (by omega),if_pos h1,decide_eq_false (by omega),Bool.not_false,bindS (ref6_Open_eq hv (by omega) hst (by omega) (by omega) ⟨by omega,by omega⟩)]
   have hrec:∀x,x ∈ rowL v L P r→∀w,w.length+bN d≤100000→ref15_Needer_look k (Ref15Needer.mk (Ref15Checker.mk (Ref6Hall.mk v (usL v)) L P m tt aa) w false) (r++[x])=some ((ned v L P m d (r++[x]) w).1,!(ned v L P m d (r++[x]) w).2):=fun x hx w hw=>needer_eq hc d k (r++[x]) w (by omega) (by omega) (by rw[List.length_append,List.length_singleton];omega) ((rowL_next hv hst (by omega) hx).state hv) hw
   have hb1:(openL v L P r (r.length:Int)).length * bN d≤9 * bN d:=Nat.mul_le_mul_right _ (by omega)
   have e0:=needer_l0 (k:=k) (r:=r) (a0:=Ref15Needer.mk (Ref15Checker.mk (Ref6Hall.mk v (usL v)) L P m tt aa) w false) (o:=openL v L P r (r.length:Int)) (b:=bN d) (rec_:=ref15_Needer_look k) (f:=fun x w=>ned v L P m d (r++[x]) w) (by omega) (by omega) (fun x w=>ned_sz hc) (fun x hx w hw=>hrec x (List.mem_append_left _ hx) w hw) (openL v L P r (r.length:Int)).length k 0 (w++[true]) (by omega) (by omega) (by rw[List.length_append,List.length_singleton];omega)
   rw[List.drop_zero] at e0
   have e0:ref15_Needer_look_l0 k (Ref15Needer.mk (Ref15Checker.mk (Ref6Hall.mk v (usL v)) L P m tt aa) w false) r (openL v L P r (r.length:Int)) (ref15_Needer_look k) k (w++[true]) false 0=_:=e0
   rw[bindS e0]
   have hle:=rowC_sz (f:=fun x w=>ned v L P m d (r++[x]) w) (sz:=List.length) (b:=bN d) (fun x w=>ned_sz hc) (openL v L P r (r.length:Int)) (w++[true])
   rw[List.length_append,List.length_singleton] at hle
   have hrl:rowL v L P r=openL v L P r (r.length:Int)++(if (pinAt P (r.length:Int)).isSome=true then [] else [-1]):=rfl
   rw[hrl,rowC_app]
   rw[hrl] at hrec
   generalize rowC (fun x w=>ned v L P m d (r++[x]) w) (openL v L P r (r.length:Int)) (w++[true])=q at hle
   obtain⟨b,g⟩:=q
   have hle:b.length≤w.length+1+(openL v L P r (r.length:Int)).length * bN d:=hle
   dsimp only
   rw[bindS (ref15_pinned_eq hc.ok.rise (by omega) (by omega) _)]
   cases g
   ·rw[if_neg (by simp),Bool.not_false,Bool.not_true,cond_self',bindS rfl,cond_false]
   ·rw[if_pos rfl,Bool.not_true]
    cases hp:(pinAt P (r.length:Int)).isSome
    ·rw[hp] at hrec
     rw[cNF,bindS rfl,Bool.not_false,cond_true,if_neg (by simp),rowC_one,gdD (by simp only[List.length_nil];omega),List.nil_append,gdD (by simp only[List.length_singleton];omega),bindS (hrec (-1) (by simp) b (by omega))]
    ·rw[cNT,bindS rfl,cond_false,if_pos rfl]
     rfl
  ·rw[condD (by omega),if_neg h1,decide_eq_true (by omega)]
   rfl
end
end Go.Px

set_option linter.unusedVariables false
set_option linter.unusedSimpArgs false
namespace Go.Px
open Go Go.Sh
theorem law17_told_eq2:law17_told 20000=some true:=by decide +kernel
section
variable {k:Nat} {v:Venue} {L:List Party} {P:List Pin} {r:List Int} {fuel m:Int} {t:List Bool}
theorem ref15_Check_eq (hc:BCtx v L P) (htl:t.length≤100000):ref15_Check 20000 v L P r t=some (if dB (PlanP v L P r)=true then (if chkB v L P r t=true then ((t.length:Int),0) else (0,10)) else (0,1)):=by
 have hv:=hc.small
 have h4:=hc.pr.l4
 have hP4:=hc.l4
 have hI:=hc.pr.inn hc.ok
 unfold ref15_Check
 rw[bindS (ref6_MayPlan_eq hv (by omega) (by omega) (by omega))]
 rcases Classical.em (PlanP v L P r) with h | h
 ·have e:=checker_eq (m:=seatN L r L.length) hc htl L.length 20000 [] 0 (by omega) (by omega) (by simp) (StateP_nil hI) (by omega)
  have e:ref15_Checker_look 20000 (Ref15Checker.mk (Ref6Hall.mk v (usL v)) L P (seatN L r L.length) t 0) []=_:=e
  rw[dB_T h,cNT,bindS (ref6_NewHall_eq hv),mayB_iff.2 hI.1,cond_true,optc_some,bindS (ref6_Seated_eq hc.pr.all (by omega) (by omega) h.len),bindS e,if_pos rfl]
  dsimp only
  unfold chkB chkR
  cases hq:(chk v L P (seatN L r L.length) t L.length [] 0).2
  ·rw[cNF,dB_F (fun h=>by rw[h] at hq;cases hq),if_neg (by simp)]
  ·rw[cNT]
   by_cases hl:(chk v L P (seatN L r L.length) t L.length [] 0).1=t.length
   ·rw[condNT (by omega),dB_T (Prod.ext hl hq),if_pos rfl,hl]
   ·rw[condNF (by omega),dB_F (fun h=>hl (by rw[h])),if_neg (by simp)]
 ·rw[dB_F h,cNF,if_neg (by simp)]
theorem ref15_Need_eq (hc:BCtx v L P):ref15_Need 20000 v L P r=some (nedL v L P r):=by
 have hv:=hc.small
 have h4:=hc.pr.l4
 have hP4:=hc.l4
 have hI:=hc.pr.inn hc.ok
 unfold ref15_Need nedL nedR
 rw[bindS (ref6_MayPlan_eq hv (by omega) (by omega) (by omega))]
 rcases Classical.em (PlanP v L P r) with h | h
 ·have hB:=bN_4 h4
  have e:=needer_eq (m:=seatN L r L.length) hc (tt:=[]) (aa:=0) L.length 20000 [] [] (by omega) (by omega) (by simp) (StateP_nil hI) (by rw[List.length_nil];omega)
  rw[dB_T h,cNT,bindS (ref6_NewHall_eq hv),mayB_iff.2 hI.1,cond_true,optc_some,bindS (ref6_Seated_eq hc.pr.all (by omega) (by omega) h.len),bindS e,if_pos rfl]
  dsimp only
  cases (ned v L P (seatN L r L.length) L.length [] []).2
  ·rw[Bool.not_false,cond_true,if_neg (by simp)]
  ·rw[Bool.not_true,cond_false,if_pos rfl]
 ·rw[dB_F h,cNF,if_neg (by simp)]
theorem bits_refl (k:Nat) (l:List Bool) (hl:l.length < k) (hb:l.length≤4294967290):ref15_SameBits k l l=some true:=by
 unfold ref15_SameBits
 rw[condNT rfl]
 have h:=scan_go (f:=fun n i=>ref15_SameBits_l0 k l l n i) (len:=l.length) (good:=fun _=>True)
  (fun n i hi _=>by
   show ref15_SameBits_l0 k l l (n+1) (i:Int)=_
   rw[ref15_SameBits_l0,condD (by omega),bindS (idx_aI (by omega) (by omega)),bindS (idx_aI (by omega) (by omega)),beq_self_eq_true,cNT,wr_succ (by omega)])
  (fun n=>by show ref15_SameBits_l0 k l l (n+1) _=_;rw[ref15_SameBits_l0,condN (by omega)]) l.length k 0 (by omega) hl (fun _ _ _=>trivial)
 have h:ref15_SameBits_l0 k l l k 0=_:=h
 rw[bindS h,elim_go]
end
end Go.Px

set_option linter.unusedVariables false
set_option linter.unusedSimpArgs false
namespace Go.Px
open Go Go.Sh
section
variable {v:Venue} {L:List Party} {P:List Pin} {r:List Int}
theorem casks_l0 (hc:BCtx v L P) {a4:Int} {a5:List Bool} {R:List (List Int)} (h5:a5.length≤60) (hR:∀r,r ∈ R→PlanP v L P r) (hR0:0 < R.length) (hRl:R.length≤10000):∀(d n i:Nat) (p:List Int),i+d=2→d < n→(∀j:Nat,j < p.length→okI (aI p (j:Int)))→law17_CertAsks_l0 20000 a4 a5 (v,L) P R n p (i:Int)=some (.go ())
 | d,0,i,p,_,h,_=>absurd h (by omega)
 | 0,n+1,i,p,hi,_,_=>by
  rw[law17_CertAsks_l0,condN (by omega)]
 | d+1,n+1,i,p,hi,hd,hp=>by
  have hnl:=nedL_len hc (r:=p)
  obtain⟨u0,u1⟩:=um a4 (R.length:Int) (by omega)
  have hw:IntKind.u64.wrap (R.length:Int)=(R.length:Int):=wu_id (by omega) (by omega)
  rw[law17_CertAsks_l0,condD (by omega)]
  dsimp only
  have eb:((dB (PlanP v L P p) && chkB v L P p a5) == decide ((if dB (PlanP v L P p)=true then (if chkB v L P p a5=true then ((a5.length:Int),(0:Int)) else (0,10)) else (0,1)).2=0))=true:=by
   cases dB (PlanP v L P p)
   ·rfl
   ·cases chkB v L P p a5 <;> rfl
  rw[bindS (check_eq hc hp (by omega)),bindS (ref15_Check_eq hc (by omega)),condNT rfl,condNT rfl,bindS (holds_eq hc hp (by omega)),eb,cNT,bindS (need_eq2 hc hp),bindS (ref15_Need_eq hc),bindS (bits_refl _ _ (by omega) (by omega)),cNT,condN (by omega),gdD (by rw[hw];omega),hw,bindS (idx_aI u0 u1),wr_succ (by omega)]
  exact casks_l0 hc h5 hR hR0 hRl d n (i+1) _ (by omega) (by omega) ((hR _ (aI_mem u0 u1)).ok hc.small)
theorem okLI_at {l:List Int} (h:okLI l):∀j:Nat,j < l.length→okI (aI l (j:Int)):=fun j hj=>h.2 _ (aI_mem (by omega) (by omega))
theorem CertAsks_true (a0:List Int) (h0:okLI a0) (a1:List Int) (h1:okLI a1) (a2:Int) (h2:okI a2) (a3:List Int) (h3:okLI a3) (a4:Int) (h4:okI a4) (a5:List Bool) (h5:okLB a5):∃k,law17_CertAsks k a0 a1 a2 a3 a4 a5=some true:=by
 refine⟨20000,?_⟩
 obtain⟨v,L,e,hp⟩:=law12_Small_eq (k:=20000) a0 a1 (by omega)
 have hv:=hp.small (k:=20000) (by omega) (by omega)
 obtain⟨P,e3,hPl,hP⟩:=law12_Pins_eq hp (k:=20000) (by omega) (by omega) a2
 obtain⟨R,e5,hR,hRl⟩:=ref15_Plans_eq hp (k:=20000) (by omega) (by omega) (P:=P) hPl
 have hc:BCtx v L P:=⟨hp,hPl,hP⟩
 have hR0:0 < R.length:=by
  obtain⟨m,hm,_⟩:=mem_aI ((hR _).2 (pinPlan_P hv (hp.inn hP)))
  omega
 unfold law17_CertAsks
 rw[bindS e]
 dsimp only
 rw[bindS e3]
 by_cases h6:6 < (a3.length:Int)
 ·rw[condD h6,bindS rfl,cond_true,bindS law17_told_eq2]
 rw[condN h6,bindS rfl]
 by_cases h7:60 < (a5.length:Int)
 ·rw[condD h7,bindS law17_told_eq2]
 rw[condN h7,bindS e5]
 have el:=casks_l0 hc (a4:=a4) (a5:=a5) (R:=R) (by omega) (fun r hr=>(hR r).1 hr) hR0 hRl 2 20000 0 a3 (by omega) (by omega) (okLI_at h3)
 have el:law17_CertAsks_l0 20000 a4 a5 (v,L) P R 20000 a3 0=some (.go ()):=el
 rw[bindS el,elim_go,bindS law17_told_eq2]
end
end Go.Px
