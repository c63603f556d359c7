/- The plain law, in parts: Plans, PlanPins, Bound, Bounds, BoundAsks, BoundMost, Prop, PropLaws, Hunt, Search, SearchLaws, Best, SearchBest, ResolveMost. -/
import Derived.Test.YtfgfckgbefnnaaaGreatPResolveFuel0
set_option linter.unusedVariables false
set_option linter.unusedSimpArgs false
namespace Go.Px
open Go Go.Sh
theorem aI_lt {α:Type} [Inhabited α] {l m:List α} {i:Nat} (h:i < l.length):aI (l++m) (i:Int)=aI l (i:Int):=by
 unfold aI
 rw[Int.toNat_natCast,List.getD_eq_getElem?_getD,List.getD_eq_getElem?_getD,List.getElem?_append_left h]
theorem aI_last {α:Type} [Inhabited α] {l:List α} {x : α} {i:Nat} (h:i=l.length):aI (l++[x]) (i:Int)=x:=by
 unfold aI
 rw[Int.toNat_natCast,List.getD_eq_getElem?_getD,h,List.getElem?_append_right (Nat.le_refl _),Nat.sub_self]
 rfl
theorem aI_set {α:Type} [Inhabited α] {l:List α} {i j:Nat} {x : α} (h:i < l.length):aI (l.set i x) (j:Int)=if j=i then x else aI l (j:Int):=by
 unfold aI
 rw[Int.toNat_natCast,List.getD_eq_getElem?_getD,List.getD_eq_getElem?_getD]
 split
 ·rename_i hj
  rw[hj,List.getElem?_set_self h]
  rfl
 ·rename_i hj
  rw[List.getElem?_set_ne (fun e=>hj e.symm)]
theorem aI_ext {α:Type} [Inhabited α] {l m:List α} (hl:l.length=m.length) (h:∀i:Nat,i < l.length→aI l (i:Int)=aI m (i:Int)):l=m:=by
 refine List.ext_getElem hl fun i h1 h2=>?_
 have:=h i h1
 unfold aI at this
 rw[Int.toNat_natCast,List.getD_eq_getElem?_getD,List.getD_eq_getElem?_getD,List.getElem?_eq_getElem h1,List.getElem?_eq_getElem h2] at this
 exact this
structure Prob (v:Venue) (L:List Party):Prop where
 may:MayV v
 n1:v.Seats.length≤9
 kl:v.Kills.length≤9
 pl:v.Poles.length≤9
 rad:InP v.Radius 0 24
 l4:L.length≤4
 ps:∀i:Nat,i < L.length→MayP (aI L (i:Int))∧(aI L (i:Int)).Size≤3
theorem Prob.all {v:Venue} {L:List Party} (h:Prob v L):AllMay L:=⟨by have:=h.l4;omega,fun i hi=>(h.ps i hi).1⟩
theorem Prob.small {v:Venue} {L:List Party} (h:Prob v L) {k:Nat} (h1:9 < k) (h2:k≤4294967290):Small k v:=⟨by have:=h.n1;omega,by have:=h.kl;omega,by have:=h.pl;omega,h2,by omega⟩
theorem Prob.inn {v:Venue} {L:List Party} (h:Prob v L) {P:List Pin} (hP:PinOK v L P):InOK v L P:=⟨h.may,hP,h.all⟩
theorem small_l0 (k:Nat) (l:List Int):∀(d n i:Nat) (w:List Party),i+d=4→d < n→w.length=i→(∀j:Nat,j < w.length→MayP (aI w (j:Int))∧(aI w (j:Int)).Size≤3)→∃o,law12_Small_l0 k l n w (i:Int)=some o∧o.length≤4∧∀j:Nat,j < o.length→MayP (aI o (j:Int))∧(aI o (j:Int)).Size≤3
 | d,0,i,w,_,h,_,_=>absurd h (by omega)
 | 0,n+1,i,w,hi,_,hw,hp=>by
  rw[law12_Small_l0]
  by_cases h:(i:Int) < (l.length:Int)
  ·rw[condD h,condN (by omega)]
   exact⟨w,rfl,by omega,hp⟩
  ·rw[condN h]
   exact⟨w,rfl,by omega,hp⟩
 | d+1,n+1,i,w,hi,hd,hw,hp=>by
  rw[law12_Small_l0]
  by_cases h:(i:Int) < (l.length:Int)
  ·obtain⟨u0,u1⟩:=um (aI l (i:Int)) 3 (by omega)
   rw[condD h,condD (by omega),bindS (idx_aI (by omega) h),wr_id (x:=(IntKind.u64.wrap (aI l (i:Int))).tmod 3) (by omega) (by omega),wr_id (x:=1+(IntKind.u64.wrap (aI l (i:Int))).tmod 3) (by omega) (by omega),wr_succ (by omega)]
   generalize (IntKind.u64.wrap (aI l (i:Int))).tmod 3=q at u0 u1
   generalize ((IntKind.u64.wrap ((IntKind.u64.wrap (aI l (i:Int))).tdiv 3)).tmod 4)=q2
   have hgo:∀p:Party,MayP p∧p.Size≤3→∃o,(gd (decide (w.length+([p]).length≤4294967296)) (law12_Small_l0 k l n (w++[p]) ((i+1:Nat):Int)))=some o∧o.length≤4∧∀j:Nat,j < o.length→MayP (aI o (j:Int))∧(aI o (j:Int)).Size≤3:=fun p hpp=>by
    rw[gdD (by simp only[List.length_singleton];omega)]
    refine small_l0 k l d n (i+1) (w++[p]) (by omega) (by omega) (by simp [hw]) fun j hj=>?_
    rw[List.length_append,List.length_singleton] at hj
    by_cases hjw:j < w.length
    ·rw[aI_lt hjw];exact hp j hjw
    ·rw[aI_last (by omega)];exact hpp
   by_cases h2:q2=0
   ·rw[condD h2,bindS rfl]
    by_cases h3:1 < 1+q
    ·rw[condD h3]
     exact hgo _ ⟨⟨by simp only;omega,by simp only;omega,by simp only;omega,by simp only;omega,by simp only;omega⟩,by simp only;omega⟩
    ·rw[condN h3]
     exact hgo _ ⟨⟨by simp only;omega,by simp only;omega,by simp only;omega,by simp only;omega,by simp only;omega⟩,by simp only;omega⟩
   ·rw[condN h2,bindS rfl,cond_false]
    exact hgo _ ⟨⟨by simp only;omega,by simp only;omega,by simp only;omega,by simp only;omega,by simp only;omega⟩,by simp only;omega⟩
  ·rw[condN h]
   exact⟨w,rfl,by omega,hp⟩
theorem law12_Small_eq {k:Nat} (l m:List Int) (hk:100≤k):∃v L,law12_Small k l m=some (v,L)∧Prob v L:=by
 obtain⟨v,e,hv⟩:=law3_Make_eq k l 9 (by omega) (by omega) (by omega)
 have e:law3_Make k l 9=some v:=e
 obtain⟨L,eL,hL1,hL2⟩:=small_l0 k m 4 k 0 [] (by omega) (by omega) rfl (fun j hj=>absurd hj (by simp))
 have eL:law12_Small_l0 k m k [] 0=some L:=eL
 have h6:∃b,(cond (decide (0 < (m.length:Int))) (Option.bind (idx m 0) fun y10=>some (!decide ((y10.tmod 3)=0))) (some false))=some b:=by
  by_cases h:0 < (m.length:Int)
  ·rw[condD h,bindS (idx_aI (by omega) h)];exact⟨_,rfl⟩
  ·rw[condN h];exact⟨_,rfl⟩
 obtain⟨b,eb⟩:=h6
 have h13:∃r,cond b (some (v.Radius.tmod 12)) (some v.Radius)=some r∧InP r 0 24:=by
  have hr:=hv.rad
  cases b
  ·exact⟨_,rfl,hr⟩
  ·refine⟨_,rfl,Int.tmod_nonneg _ hr.1,?_⟩
   have:=Int.tmod_lt_of_pos v.Radius (b:=12) (by omega)
   omega
 obtain⟨r,er,hr⟩:=h13
 unfold law12_Small
 rw[bindS e,bindS eb,bindS er,bindS eL]
 have hM:=hv.may
 exact⟨_,_,rfl,⟨hM.seats,hM.n0,hM.n1,hM.gap,by show InP r 0 1048576;omega,hM.kills,hM.k1,hM.poles,hM.p1⟩,hv.n1,hv.kl,hv.pl,hr,hL1,hL2⟩
theorem pins_ok {k:Nat} {v:Venue} {L:List Party} {P:List Pin} (hv:Small k v) (hP:PinOK v L P):∀i:Nat,i < P.length→okI (aI P (i:Int)).First:=fun i hi=>by
 have h:=hP i hi
 obtain⟨_,h1,h2,h3⟩:=plB_in hv h.pl
 have:=hv.hs
 have:=hv.b
 exact⟨by omega,by omega⟩
theorem PlanP.ok {k:Nat} {v:Venue} {L:List Party} {P:List Pin} {r:List Int} (hv:Small k v) (h:PlanP v L P r):∀i:Nat,i < r.length→okI (aI r (i:Int)):=fun i hi=>by
 by_cases h1:aI r (i:Int) = -1
 ·rw[h1];exact⟨by omega,by omega⟩
 ·obtain⟨_,h1,h2,h3⟩:=plB_in hv ((h.at_ i hi).pl h1)
  have:=hv.hs
  have:=hv.b
  exact⟨by omega,by omega⟩
theorem pins_l0 {k:Nat} {v:Venue} {L:List Party} (hp:Prob v L) (hk:1000 < k) (hb:k≤4294967290):∀(d n i:Nat) (P:List Pin) (m:Int),i+d=L.length→d < n→P.length≤i→PinOK v L P→∃P',law12_Pins_l0 k v L n P m (i:Int)=some P'∧P'.length≤4∧PinOK v L P'
 | d,0,i,P,m,_,h,_,_=>absurd h (by omega)
 | 0,n+1,i,P,m,hi,_,hl,hP=>by
  have:=hp.l4
  rw[law12_Pins_l0,condN (by omega)]
  exact⟨P,rfl,by omega,hP⟩
 | d+1,n+1,i,P,m,hi,hd,hl,hP=>by
  have h4:=hp.l4
  have hv:=hp.small (k:=k) (by omega) hb
  have hal:=allV_len v (aI L (i:Int))
  have hn:=hp.n1
  have hrec:∀(P:List Pin) (m:Int),P.length≤i+1→PinOK v L P→∃P',law12_Pins_l0 k v L n P m ((i+1:Nat):Int)=some P'∧P'.length≤4∧PinOK v L P':=fun P m a b=>pins_l0 hp hk hb d n (i+1) P m (by omega) (by omega) a b
  rw[law12_Pins_l0,condD (by omega),bindS (idx_aI (by omega) (by omega)),bindS (ref6_AllPlaces_eq hv hk _),wr_succ (by omega)]
  by_cases h1:m.tmod 3=0
  ·rw[condNT h1]
   by_cases h2:((allV v (aI L (i:Int))).length:Int)=0
   ·rw[condD h2]
    exact hrec _ _ (by omega) hP
   ·have hw:IntKind.u64.wrap ((allV v (aI L (i:Int))).length:Int)=((allV v (aI L (i:Int))).length:Int):=wu_id (by omega) (by omega)
    obtain⟨u0,u1⟩:=um (m.tdiv 3) ((allV v (aI L (i:Int))).length:Int) (by omega)
    rw[condN h2,gdD (by simp only[List.length_nil];omega),gdD (by rw[hw];omega),hw,bindS (idx_aI u0 u1),List.nil_append]
    generalize aI (allV v (aI L (i:Int))) ((IntKind.u64.wrap (m.tdiv 3)).tmod ((allV v (aI L (i:Int))).length:Int))=f
    have hql:(P++[Pin.mk (i:Int) f]).length=P.length+1:=by simp
    rw[gdD (by simp only[List.length_singleton];omega),bindS (ref6_MayPins_eq hv hk (by omega) (by omega))]
    rcases Classical.em (InOK v L (P++[Pin.mk (i:Int) f])) with hq | hq
    ·rw[dB_T hq,cond_true]
     exact hrec _ _ (by omega) hq.2.1
    ·rw[dB_F hq,cond_false]
     exact hrec _ _ (by omega) hP
  ·rw[condNF h1]
   exact hrec _ _ (by omega) hP
theorem law12_Pins_eq {k:Nat} {v:Venue} {L:List Party} (hp:Prob v L) (hk:1000 < k) (hb:k≤4294967290) (m:Int):∃P,law12_Pins k v L m=some P∧P.length≤4∧PinOK v L P:=by
 have:=hp.l4
 obtain⟨P,e,h⟩:=pins_l0 hp hk hb L.length k 0 [] (IntKind.u64.wrap m) (by omega) (by omega) (by simp) PinOK_nil
 have e:law12_Pins_l0 k v L k [] (IntKind.u64.wrap m) 0=some P:=e
 unfold law12_Pins
 rw[bindS e]
 exact⟨P,rfl,h⟩
/- all plans -/
theorem allV_mem {k:Nat} {v:Venue} (hv:Small k v) {p:Party} {s:Int} : s ∈ allV v p ↔ plB v p s=true:=by
 unfold allV plB
 cases mayB v
 ·simp
 ·rw[cond_true,Bool.true_and]
  unfold allL
  rw[List.mem_map]
  constructor
  ·rintro ⟨a,h,rfl⟩
   exact(List.mem_filter.1 h).2
  ·intro h
   have hN:=hv.hs
   have hb:=hv.b
   obtain⟨h1,h2,h3,_⟩:=placeB_pos (by omega) h
   refine⟨s.toNat,List.mem_filter.2 ⟨List.mem_range.2 (by omega),?_⟩,by omega⟩
   rw[show((s.toNat:Nat):Int)=s by omega]
   exact h
noncomputable def nextP (v:Venue) (L:List Party) (i:Nat) (r:List Int):List (List Int):=(allV v (aI L (i:Int))++[-1]).map (fun s=>r++[s])
noncomputable def allP (v:Venue) (L:List Party):Nat→List (List Int)
 | 0=>[[]]
 | i+1=>(allP v L i).flatMap (nextP v L i)
theorem nextP_len {v:Venue} {L:List Party} {i:Nat} {r:List Int} : (nextP v L i r).length≤v.Seats.length+1:=by
 unfold nextP
 rw[List.length_map,List.length_append,List.length_singleton]
 have:=allV_len v (aI L (i:Int))
 omega
theorem flat_len {α:Type} {f : α→List α} {c:Nat} : ∀ {l:List α},(∀x,x ∈ l→(f x).length≤c)→(l.flatMap f).length≤c * l.length
 | [],_=>by simp
 | x::l,h=>by
  rw[List.flatMap_cons,List.length_append,List.length_cons,Nat.mul_succ]
  have:=h x (by simp)
  have:=flat_len (l:=l) (fun y hy=>h y (by simp [hy]))
  omega
theorem allP_len {v:Venue} {L:List Party} (hn:v.Seats.length≤9):∀i:Nat,(allP v L i).length≤10 ^ i
 | 0=>by simp [allP]
 | i+1=>by
  have:=allP_len hn (L:=L) i
  have h2:=flat_len (f:=nextP v L i) (c:=10) (l:=allP v L i) (fun x _=>by have:=nextP_len (v:=v) (L:=L) (i:=i) (r:=x);omega)
  rw[allP,Nat.pow_succ]
  omega
theorem mem_allP {v:Venue} {L:List Party} : ∀ {i:Nat} {r:List Int},r ∈ allP v L i ↔ r.length=i∧∀j:Nat,j < i→aI r (j:Int) = -1∨aI r (j:Int) ∈ allV v (aI L (j:Int))
 | 0,r=>by
  rw[allP,List.mem_singleton]
  constructor
  ·rintro rfl;exact⟨rfl,fun j hj=>absurd hj (by omega)⟩
  ·rintro ⟨h,_⟩;exact List.length_eq_zero_iff.1 h
 | i+1,r=>by
  rw[allP,List.mem_flatMap]
  constructor
  ·rintro ⟨r0,h0,h1⟩
   obtain⟨a,b⟩:=mem_allP.1 h0
   unfold nextP at h1
   obtain⟨s,hs,rfl⟩:=List.mem_map.1 h1
   refine⟨by rw[List.length_append,List.length_singleton,a],fun j hj=>?_⟩
   by_cases h:j < i
   ·rw[aI_lt (by omega)];exact b j h
   ·obtain rfl:j=i:=by omega
    rw[aI_last a.symm]
    rcases List.mem_append.1 hs with h | h
    ·exact .inr h
    ·exact .inl (List.mem_singleton.1 h)
  ·rintro ⟨h1,h2⟩
   have hr:r=r.take i++[aI r (i:Int)]:=by
    refine aI_ext (by rw[List.length_append,List.length_take,List.length_singleton];omega) fun j hj=>?_
    by_cases h:j < i
    ·rw[aI_lt (by rw[List.length_take];omega)]
     unfold aI
     rw[Int.toNat_natCast,List.getD_eq_getElem?_getD,List.getD_eq_getElem?_getD,List.getElem?_take_of_lt h]
    ·obtain rfl:j=i:=by omega
     rw[aI_last (by rw[List.length_take];omega)]
   refine⟨r.take i,mem_allP.2 ⟨by rw[List.length_take];omega,fun j hj=>?_⟩,?_⟩
   ·have:=h2 j (by omega)
    have e:aI (r.take i) (j:Int)=aI r (j:Int):=by
     unfold aI
     rw[Int.toNat_natCast,List.getD_eq_getElem?_getD,List.getD_eq_getElem?_getD,List.getElem?_take_of_lt hj]
    rw[e]
    exact this
   ·unfold nextP
    refine List.mem_map.2 ⟨aI r (i:Int),?_,hr.symm⟩
    rcases h2 i (by omega) with h | h
    ·rw[h];simp
    ·exact List.mem_append_left _ h
theorem PlanP.mem {k:Nat} {v:Venue} {L:List Party} {P:List Pin} {r:List Int} (hv:Small k v) (h:PlanP v L P r):r ∈ allP v L L.length:=by
 refine mem_allP.2 ⟨h.len,fun j hj=>?_⟩
 rw[allV_mem hv]
 by_cases h1:aI r (j:Int) = -1
 ·exact .inl h1
 ·exact .inr ((h.at_ j (by rw[h.len];exact hj)).pl h1)
theorem range_map_aI {α β:Type} [Inhabited α] {l:List α} {f : α → β} : (List.range l.length).map (fun j:Nat=>f (aI l (j:Int)))=l.map f:=by
 refine List.ext_getElem (by simp) fun i h1 h2=>?_
 simp at h1 h2 ⊢
 unfold aI
 rw[Int.toNat_natCast,List.getD_eq_getElem?_getD,List.getElem?_eq_getElem h1]
 rfl
theorem filter_yes {α:Type} (l:List α):l.filter (fun _=>true)=l:=List.filter_eq_self.2 (fun _ _=>rfl)
theorem plans_l12 {k:Nat} {M:List Int} {A:List (List Int)} {j:Nat} (hj:j < A.length) (hr:(aI A (j:Int)).length≤1000) (hM:M.length≤10000) (hk:20000≤k) (w:List (List Int)) (hw:w.length≤4294000000) :
  ref15_Plans_l12 k M A (j:Int) k w 0=some (w++(M++[-1]).map (fun s=>aI A (j:Int)++[s])):=by
 have hl:(([]++M)++([(-1)]:List Int)).length=M.length+1:=by simp
 have e:=gather0 (f:=fun n a i=>ref15_Plans_l12 k M A (j:Int) n a i) (len:=M.length+1) (c:=4294000000) (fun _=>true) (fun s:Nat=>aI A (j:Int)++[aI (M++[-1]) (s:Int)])
  (fun n i w hi hw=>by
   show ref15_Plans_l12 k M A (j:Int) (n+1) w (i:Int)=ref15_Plans_l12 k M A (j:Int) n _ _
   rw[ref15_Plans_l12,condD (by rw[hl];omega),bindS (idx_aI (by omega) (by omega)),gdD (by simp only[List.length_nil];omega),bindS (idx_aI (by omega) (by rw[hl];omega)),List.nil_append,List.nil_append,gdD (by simp only[List.length_singleton];omega),gdD (by simp only[List.length_singleton];omega),wr_succ (by omega),if_pos rfl])
  (fun n w=>by show ref15_Plans_l12 k M A (j:Int) (n+1) w _=_;rw[ref15_Plans_l12,condN (by rw[hl];omega)])
  (k:=k) (by omega) w hw
 have e:ref15_Plans_l12 k M A (j:Int) k w 0=_:=e
 rw[e,filter_yes]
 have h:=range_map_aI (l:=M++[-1]) (f:=fun s=>aI A (j:Int)++[s])
 rw[List.length_append,List.length_singleton] at h
 rw[h]
theorem drop_aI {α:Type} [Inhabited α] {l:List α} {i:Nat} (h:i < l.length):l.drop i=aI l (i:Int)::l.drop (i+1):=by
 unfold aI
 rw[Int.toNat_natCast,List.getD_eq_getElem?_getD,List.getElem?_eq_getElem h]
 exact List.drop_eq_getElem_cons h
section
variable {k:Nat} {v:Venue} {L:List Party}
theorem plans_l11 (hp:Prob v L) (hk:20000≤k) (hb:k≤4294967290) {i:Nat} (hi:i < L.length) {A:List (List Int)} (hA:A.length≤10000) (hr:∀r,r ∈ A→r.length≤1000):∀(d n j:Nat) (w:List (List Int)),j+d=A.length→d < n→w.length≤10 * j →
  ref15_Plans_l11 k v L A (i:Int) n w (j:Int)=some (w++(A.drop j).flatMap (nextP v L i))
 | d,0,j,w,_,h,_=>absurd h (by omega)
 | 0,n+1,j,w,hj,_,hw=>by
  rw[ref15_Plans_l11,condN (by omega),List.drop_eq_nil_of_le (by omega)]
  simp
 | d+1,n+1,j,w,hj,hd,hw=>by
  have hv:=hp.small (k:=k) (by omega) hb
  have hal:=allV_len v (aI L (i:Int))
  have hn:=hp.n1
  have hnl:=nextP_len (v:=v) (L:=L) (i:=i) (r:=aI A (j:Int))
  rw[ref15_Plans_l11,condD (by omega),bindS (idx_aI (by omega) (by omega)),bindS (ref6_AllPlaces_eq hv (by omega) _),gdD (by simp only[List.length_nil];omega),gdD (by simp only[List.nil_append,List.length_singleton];omega),bindS (plans_l12 (by omega) (hr _ (aI_mem (by omega) (by omega))) (by omega) hk w (by omega)),wr_succ (by omega)]
  have h:=plans_l11 hp hk hb hi hA hr d n (j+1) (w++nextP v L i (aI A (j:Int))) (by omega) (by omega) (by rw[List.length_append];omega)
  rw[drop_aI (l:=A) (i:=j) (by omega),List.flatMap_cons,← List.append_assoc]
  exact h
theorem plans_l8 (hp:Prob v L) (hk:20000≤k) (hb:k≤4294967290):∀(d n i:Nat),i+d=L.length→d < n→ref15_Plans_l8 k v L n (allP v L i) (i:Int)=some (allP v L L.length)
 | d,0,i,_,h=>absurd h (by omega)
 | 0,n+1,i,hi,_=>by
  rw[ref15_Plans_l8,condN (by omega),show i=L.length by omega]
 | d+1,n+1,i,hi,hd=>by
  have h4:=hp.l4
  have hA:=allP_len hp.n1 (L:=L) i
  have hA2:(10:Nat) ^ i≤10 ^ 4:=Nat.pow_le_pow_right (by omega) (by omega)
  have e:=plans_l11 hp hk hb (i:=i) (by omega) (A:=allP v L i) (by omega) (fun r hr=>by rw[(mem_allP.1 hr).1];omega) (allP v L i).length k 0 [] (by omega) (by omega) (by simp)
  have e:ref15_Plans_l11 k v L (allP v L i) (i:Int) k [] 0=_:=e
  rw[ref15_Plans_l8,condD (by omega),bindS e,wr_succ (by omega),List.drop_zero,List.nil_append]
  exact plans_l8 hp hk hb d n (i+1) (by omega) (by omega)
theorem ref15_Plans_eq (hp:Prob v L) (hk:20000≤k) (hb:k≤4294967290) {P:List Pin} (hP:P.length≤4):∃R,ref15_Plans k v L P=some R∧(∀r,r ∈ R ↔ PlanP v L P r)∧R.length≤10000:=by
 have h4:=hp.l4
 have hv:=hp.small (k:=k) (by omega) hb
 unfold ref15_Plans
 rw[bindS (ref6_MayPins_eq hv (by omega) (by omega) (by omega))]
 rcases Classical.em (InOK v L P) with h | h
 ·have e:=plans_l8 hp hk hb L.length k 0 (by omega) (by omega)
  have e:ref15_Plans_l8 k v L k [[]] 0=_:=e
  have hA:=allP_len hp.n1 (L:=L) L.length
  have hA2:(10:Nat) ^ L.length≤10 ^ 4:=Nat.pow_le_pow_right (by omega) (by omega)
  rw[dB_T h,cNT,bindS e]
  generalize hAd:allP v L L.length=A at hA
  have e2:=gather0 (f:=fun n a i=>ref15_Plans_l13 k v L P A n a i) (len:=A.length) (c:=0) (fun j:Nat=>dB (PlanP v L P (aI A (j:Int)))) (fun j:Nat=>aI A (j:Int))
   (fun n i w hi hw=>by
    show ref15_Plans_l13 k v L P A (n+1) w (i:Int)=ref15_Plans_l13 k v L P A n _ _
    rw[ref15_Plans_l13,condD (by omega),bindS (idx_aI (by omega) (by omega)),bindS (ref6_MayPlan_eq hv (by omega) (by omega) (by omega)),wr_succ (by omega)]
    cases dB (PlanP v L P (aI A (i:Int)))
    ·rw[cond_false,if_neg (by simp)]
    ·rw[cond_true,bindS (idx_aI (by omega) (by omega)),gdD (by simp only[List.length_singleton];omega),if_pos rfl])
   (fun n w=>by show ref15_Plans_l13 k v L P A (n+1) w _=_;rw[ref15_Plans_l13,condN (by omega)])
   (k:=k) (by omega) [] (by simp)
  have e2:ref15_Plans_l13 k v L P A k [] 0=_:=e2
  rw[bindS e2,List.nil_append]
  refine⟨_,rfl,fun r=>?_,?_⟩
  ·rw[List.mem_map]
   constructor
   ·rintro ⟨j,hj,rfl⟩
    exact dB_iff.1 (List.mem_filter.1 hj).2
   ·intro hr
    have hm:=hr.mem hv
    rw[hAd] at hm
    obtain⟨j,hj,e⟩:=mem_aI hm
    exact⟨j,List.mem_filter.2 ⟨List.mem_range.2 hj,by rw[e];exact dB_T hr⟩,e⟩
  ·rw[List.length_map]
   have:=List.length_filter_le (fun j:Nat=>dB (PlanP v L P (aI A (j:Int)))) (List.range A.length)
   rw[List.length_range] at this
   omega
 ·rw[dB_F h,cNF]
  refine⟨[],rfl,fun r=>?_,by simp⟩
  constructor
  ·intro hr;cases hr
  ·intro hr;exact absurd hr.inn h
/- persons -/
def seatN (L:List Party) (r:List Int):Nat→Int
 | 0=>0
 | n+1=>seatN L r n+if 0≤aI r (n:Int) then (aI L (n:Int)).Size else 0
theorem seatN_bd (hA:AllMay L) {r:List Int} : ∀ {n:Nat},n≤L.length→0≤seatN L r n∧seatN L r n≤8 * n
 | 0,_=>by rw[seatN];omega
 | n+1,h=>by
  have:=seatN_bd hA (r:=r) (n:=n) (by omega)
  have:=hA.2 n (by omega)
  rw[seatN]
  split <;> omega
theorem plan_Seated_l0_eq (hA:AllMay L) {r:List Int} (hr:r.length≤L.length):∀(d n i:Nat),i+d=r.length→d < n→plan_Seated_l0 k L r n (seatN L r i) (i:Int)=some (seatN L r r.length)
 | d,0,i,_,h=>absurd h (by omega)
 | 0,n+1,i,hi,_=>by
  rw[plan_Seated_l0,condN (by omega),show i=r.length by omega]
 | d+1,n+1,i,hi,hd=>by
  have h1:=hA.1
  have h2:=hA.2 i (by omega)
  have h3:=seatN_bd hA (r:=r) (n:=i) (by omega)
  have ih:=plan_Seated_l0_eq hA hr d n (i+1) (by omega) (by omega)
  rw[plan_Seated_l0,condD (by omega),bindS (idx_aI (by omega) (by omega)),wr_succ (by omega)]
  rw[seatN] at ih
  by_cases h:0≤aI r (i:Int)
  ·rw[if_pos h] at ih
   rw[condD h,bindS (idx_aI (by omega) (by omega)),wr_id (by omega) (by omega),ih]
  ·rw[if_neg h,Int.add_zero] at ih
   rw[condN h,ih]
theorem ref6_Seated_l0_eq (hA:AllMay L) {r:List Int} (hr:r.length≤L.length):∀(d n i:Nat),i+d=r.length→d < n→ref6_Seated_l0 k L r n (seatN L r i) (i:Int)=some (seatN L r r.length)
 | d,0,i,_,h=>absurd h (by omega)
 | 0,n+1,i,hi,_=>by
  rw[ref6_Seated_l0,condN (by omega),show i=r.length by omega]
 | d+1,n+1,i,hi,hd=>by
  have h1:=hA.1
  have h2:=hA.2 i (by omega)
  have h3:=seatN_bd hA (r:=r) (n:=i) (by omega)
  have ih:=ref6_Seated_l0_eq hA hr d n (i+1) (by omega) (by omega)
  rw[ref6_Seated_l0,condD (by omega),bindS (idx_aI (by omega) (by omega)),wr_succ (by omega)]
  rw[seatN] at ih
  by_cases h:0≤aI r (i:Int)
  ·rw[if_pos h] at ih
   rw[condD h,bindS (idx_aI (by omega) (by omega)),wr_id (by omega) (by omega),ih]
  ·rw[if_neg h,Int.add_zero] at ih
   rw[condN h,ih]
theorem plan_Seated_eq (hA:AllMay L) (hk:1000 < k) (hb:k≤4294967290) {r:List Int} (hr:r.length=L.length):plan_Seated k L r=some (seatN L r L.length):=by
 have h1:=hA.1
 unfold plan_Seated
 rw[condNT (by omega),bindS (party_All_eq (by omega) hb),dB_T hA,bindS rfl,cNT]
 have e:=plan_Seated_l0_eq (k:=k) hA (r:=r) (by omega) r.length k 0 (by omega) (by omega)
 have e:plan_Seated_l0 k L r k 0 0=_:=e
 rw[bindS e,hr]
theorem ref6_Seated_eq (hA:AllMay L) (hk:1000 < k) (hb:k≤4294967290) {r:List Int} (hr:r.length=L.length):ref6_Seated k L r=some (seatN L r L.length):=by
 have h1:=hA.1
 unfold ref6_Seated
 rw[condNT (by omega),bindS (ref6_AllParties_eq (by omega) hb),dB_T hA,bindS rfl,cNT]
 have e:=ref6_Seated_l0_eq (k:=k) hA (r:=r) (by omega) r.length k 0 (by omega) (by omega)
 have e:ref6_Seated_l0 k L r k 0 0=_:=e
 rw[bindS e,hr]
end
end Go.Px

set_option linter.unusedVariables false
set_option linter.unusedSimpArgs false
namespace Go.Px
open Go Go.Sh
section
variable {v:Venue} {L:List Party}
theorem PlanP.pins {P:List Pin} {r:List Int} (h:PlanP v L [] r) (hP:PinOK v L P) (hh:∀i:Nat,i < P.length→aI r (aI P (i:Int)).Party=(aI P (i:Int)).First):PlanP v L P r :=
 ⟨⟨h.inn.1,hP,h.inn.2.2⟩,h.len,fun i hi=>⟨fun f hf=>by
  obtain⟨j,h1,h2,h3⟩:=pinAt_some hf
  have:=hh j h1
  rw[h2] at this
  rw[this,h3],(h.at_ i hi).pl,(h.at_ i hi).ap⟩⟩
theorem PlanP.held {P:List Pin} {r:List Int} (h:PlanP v L P r) {i:Nat} (hi:i < P.length):aI r (aI P (i:Int)).Party=(aI P (i:Int)).First:=by
 have hG:=h.inn.2.1 i hi
 have h1:=hG.lo
 have h2:=hG.hi
 have:=(h.at_ (aI P (i:Int)).Party.toNat (by rw[h.len];omega)).pin (aI P (i:Int)).First
 rw[show(((aI P (i:Int)).Party.toNat:Nat):Int)=(aI P (i:Int)).Party by omega] at this
 exact this (pinAt_get h.inn.2.1.rise hi)
def pinPlan (L:List Party) (P:List Pin):List Int:=(List.range L.length).map (fun i:Nat=>(pinAt P (i:Int)).getD (-1))
theorem pinPlan_at {P:List Pin} {i:Nat} (h:i < L.length):aI (pinPlan L P) (i:Int)=(pinAt P (i:Int)).getD (-1):=by
 unfold aI pinPlan
 rw[Int.toNat_natCast,List.getD_eq_getElem?_getD,List.getElem?_map,List.getElem?_range h]
 rfl
theorem pinPlan_P {k:Nat} (hv:Small k v) {P:List Pin} (hI:InOK v L P):PlanP v L P (pinPlan L P):=by
 have hl:(pinPlan L P).length=L.length:=by unfold pinPlan;simp
 have hP:=hI.2.1
 have hsome:∀i:Nat,i < L.length→¬aI (pinPlan L P) (i:Int) = -1→∃j,j < P.length∧(aI P (j:Int)).Party=(i:Int)∧(aI P (j:Int)).First=aI (pinPlan L P) (i:Int):=fun i hi h=>by
  rw[pinPlan_at hi] at h ⊢
  cases hp:pinAt P (i:Int) with
  | none=>rw[hp] at h;exact absurd rfl h
  | some f=>exact pinAt_some hp
 refine⟨hI,hl,fun i hi=>⟨fun f hf=>?_,fun h=>?_,fun h j hj hn=>?_⟩⟩
 ·rw[pinPlan_at (by omega),hf];rfl
 ·obtain⟨j,h1,h2,h3⟩:=hsome i (by omega) h
  have:=(hP j h1).pl
  rw[h2,h3] at this
  exact this
 ·obtain⟨a,a1,a2,a3⟩:=hsome i (by omega) h
  obtain⟨b,b1,b2,b3⟩:=hsome j (by omega) hn
  have hba:b < a:=by
   rcases Nat.lt_trichotomy b a with h | h | h
   ·exact h
   ·rw[h] at b2;omega
   ·have:=hP.rise a b h b1;omega
  have:=(hP a a1).ap b hba
  rw[a2,a3,b2,b3] at this
  exact this
end
end Go.Px

set_option linter.unusedVariables false
set_option linter.unusedSimpArgs false
namespace Go.Px
open Go Go.Sh
theorem mset_new {l:List (Int×Int)} {x v:Int} : mget l x=none→mset l x v=l++[(x,v)]:=by
 induction l with
 | nil=>intro _;rfl
 | cons p l ih =>
  intro h
  rw[mget_cons] at h
  split at h
  ·cases h
  ·rename_i hne
   rw[mset,if_neg hne,ih h]
   rfl
theorem pmN_mem {P:List Pin} (hP:RiseP P) {p:Int×Int} : ∀ {n:Nat},n≤P.length→(p ∈ pmN P n ↔ ∃i:Nat,i < n∧p=((aI P (i:Int)).Party,(aI P (i:Int)).First))
 | 0,_=>by
  rw[pmN]
  exact⟨fun h=>(by cases h),fun⟨i,h,_⟩=>absurd h (by omega)⟩
 | n+1,hn=>by
  have hnone:mget (pmN P n) (aI P (n:Int)).Party=none:=by
   cases hm:mget (pmN P n) (aI P (n:Int)).Party with
   | none=>rfl
   | some f =>
    obtain⟨i,h1,h2,_⟩:=pmN_some hm
    have:=hP i n h1 (by omega)
    omega
  rw[pmN,mset_new hnone,List.mem_append,pmN_mem hP (by omega),List.mem_singleton]
  constructor
  ·rintro (⟨i,h1,h2⟩ | h)
   ·exact⟨i,by omega,h2⟩
   ·exact⟨n,by omega,h⟩
  ·rintro ⟨i,h1,h2⟩
   rcases Nat.lt_or_ge i n with q | q
   ·exact .inl ⟨i,q,h2⟩
   ·right;rw[h2,show i=n by omega]
structure StateP (v:Venue) (L:List Party) (P:List Pin) (r:List Int):Prop where
 inn:InOK v L P
 len:r.length≤L.length
 at_:∀i,i < r.length→OkAt v L P r i
structure FreeP (v:Venue) (L:List Party) (P:List Pin) (r:List Int) (i:Int) (s:Int):Prop where
 plan:∀j:Nat,j < r.length→¬aI r (j:Int) = -1→aptB v (aI L i) s (aI L (j:Int)) (aI r (j:Int))=true
 pins:∀j:Nat,j < P.length→¬(aI P (j:Int)).Party=i→aptB v (aI L i) s (aI L (aI P (j:Int)).Party) (aI P (j:Int)).First=true
noncomputable def openL (v:Venue) (L:List Party) (P:List Pin) (r:List Int) (i:Int):List Int:=(allV v (aI L i)).filter fun s=>dB (FreeP v L P r i s∧∀f,pinAt P i=some f→s=f)
section
variable {k:Nat} {v:Venue} {L:List Party} {P:List Pin} {r:List Int}
theorem StateP.ge (hv:Small k v) (h:StateP v L P r) {j:Nat} (hj:j < r.length) (hn:¬aI r (j:Int) = -1):0≤aI r (j:Int):=(plB_in hv ((h.at_ j hj).pl hn)).2.2.1
/- the strike-out -/
theorem filter_one {l:List Int} (hl:l.Pairwise (· < ·)) {p:Int→Bool} {f:Int} (hf:f ∈ l) (hp:∀s,p s=true→s=f):l.filter p=if p f=true then [f] else []:=by
 induction l with
 | nil=>cases hf
 | cons x l ih =>
  rw[List.pairwise_cons] at hl
  rw[List.filter_cons]
  rcases List.mem_cons.1 hf with rfl | h
  ·have hn:l.filter p=[]:=List.filter_eq_nil_iff.2 fun s hs h=>by
    have:=hl.1 s hs
    have:=hp s h
    omega
   rw[hn]
  ·have hx:¬p x=true:=fun h'=>by
    have:=hl.1 f h
    have:=hp x h'
    omega
   rw[if_neg hx]
   exact ih hl.2 h
theorem allV_sorted (p:Party):(allV v p).Pairwise (· < ·):=by
 unfold allV
 cases mayB v
 ·exact List.Pairwise.nil
 ·exact allL_sorted _ _ _
end
end Go.Px

set_option linter.unusedVariables false
set_option linter.unusedSimpArgs false
namespace Go.Px
open Go Go.Sh
theorem aI_take {α:Type} [Inhabited α] {l:List α} {n:Nat} {x:Int} (h0:0≤x) (h:x < (n:Int)):aI (l.take n) x=aI l x:=by
 unfold aI
 rw[List.getD_eq_getElem?_getD,List.getD_eq_getElem?_getD,List.getElem?_take_of_lt (by omega)]
section
variable {k:Nat} {v:Venue} {L:List Party} {P:List Pin} {r:List Int}
def NextP (v:Venue) (L:List Party) (P:List Pin) (r:List Int) (x:Int):Prop:=StateP v L P r∧r.length < L.length∧((x = -1∧pinAt P (r.length:Int)=none)∨x ∈ openL v L P r (r.length:Int))
theorem openL_mem (hv:Small k v) {i s:Int} : s ∈ openL v L P r i ↔ plB v (aI L i) s=true∧FreeP v L P r i s∧∀f,pinAt P i=some f→s=f:=by
 unfold openL
 rw[List.mem_filter,allV_mem hv,dB_iff]
theorem openL_ge (hv:Small k v) {i s:Int} (h:s ∈ openL v L P r i):0≤s:=(plB_in hv ((openL_mem hv).1 h).1).2.2.1
theorem openL_len {i:Int} : (openL v L P r i).length≤v.Seats.length:=by
 unfold openL
 have:=List.length_filter_le (fun s=>dB (FreeP v L P r i s∧∀f,pinAt P i=some f→s=f)) (allV v (aI L i))
 have:=allV_len v (aI L i)
 omega
open Classical in
noncomputable def mostN (v:Venue) (L:List Party) (P:List Pin) (r:List Int):Nat→Int
 | 0=>0
 | n+1=>mostN v L P r n+if (n < r.length∧0≤aI r (n:Int))∨(r.length≤n∧0 < (openL v L P r (n:Int)).length) then (aI L (n:Int)).Size else 0
theorem mostN_bd (hA:AllMay L):∀ {n:Nat},n≤L.length→0≤mostN v L P r n∧mostN v L P r n≤8 * n
 | 0,_=>by rw[mostN];omega
 | n+1,h=>by
  have:=mostN_bd hA (n:=n) (by omega)
  have:=hA.2 n (by omega)
  rw[mostN]
  split <;> omega
end
end Go.Px

set_option linter.unusedVariables false
set_option linter.unusedSimpArgs false
namespace Go.Px
open Go Go.Sh
end Go.Px

set_option linter.unusedVariables false
set_option linter.unusedSimpArgs false
namespace Go.Px
open Go Go.Sh
theorem take_snoc {l:List Int} {i:Nat} (h:i < l.length):l.take (i+1)=l.take i++[aI l (i:Int)]:=by
 rw[List.take_add_one,List.getElem?_eq_getElem h]
 congr 1
 unfold aI
 rw[Int.toNat_natCast,List.getD_eq_getElem?_getD,List.getElem?_eq_getElem h]
 rfl
section
variable {k:Nat} {v:Venue} {L:List Party} {P:List Pin} {r:List Int}
theorem PlanP.state (h:PlanP v L P r) {n:Nat} : StateP v L P (r.take n):=by
 have hl:=h.len
 refine⟨h.inn,by rw[List.length_take];omega,fun i hi=>?_⟩
 rw[List.length_take] at hi
 have hG:=h.at_ i (by omega)
 refine⟨fun f hf=>by rw[aI_take (by omega) (by omega)];exact hG.pin f hf,fun hn=>?_,fun hn j hj hnj=>?_⟩
 ·rw[aI_take (by omega) (by omega)] at hn ⊢
  exact hG.pl hn
 ·rw[aI_take (by omega) (by omega)] at hn hnj ⊢
  rw[aI_take (by omega) (by omega)]
  exact hG.ap hn j hj hnj
theorem PlanP.open (hv:Small k v) (h:PlanP v L P r) {n i:Nat} (hn:n≤i) (hi:i < L.length) (h1:¬aI r (i:Int) = -1):aI r (i:Int) ∈ openL v L P (r.take n) (i:Int):=by
 have hl:=h.len
 have hG:=h.at_ i (by omega)
 refine(openL_mem hv).2 ⟨hG.pl h1,⟨fun j hj hnj=>?_,fun j hj hne=>?_⟩,hG.pin⟩
 ·rw[List.length_take] at hj
  rw[aI_take (by omega) (by omega)] at hnj ⊢
  exact hG.ap h1 j (by omega) hnj
 ·have hPG:=h.inn.2.1 j hj
  have hh:=h.held hj
  have h0:=hPG.lo
  have h2:=hPG.hi
  have h3:=(plB_in hv hPG.pl).2.2.1
  obtain⟨x,hx⟩:=Int.eq_ofNat_of_zero_le h0
  have hx:(aI P (j:Int)).Party=(x:Int):=hx
  rw[hx] at hh hne h2 ⊢
  rw[← hh] at h3 ⊢
  rcases Nat.lt_or_ge x i with q | q
  ·exact hG.ap h1 x q (by omega)
  ·rw[aptB_symm]
   exact(h.at_ x (by omega)).ap (by omega) i (by omega) h1
theorem PlanP.next (hv:Small k v) (h:PlanP v L P r) {i:Nat} (hi:i < L.length):NextP v L P (r.take i) (aI r (i:Int)):=by
 have hl:=h.len
 have ht:(r.take i).length=i:=by rw[List.length_take];omega
 refine⟨h.state,by omega,?_⟩
 rw[ht]
 by_cases h1:aI r (i:Int) = -1
 ·refine .inl ⟨h1,?_⟩
  cases hp:pinAt P (i:Int) with
  | none=>rfl
  | some f =>
   have:=(h.at_ i (by omega)).pin f hp
   obtain⟨j,hj,e1,e2⟩:=pinAt_some hp
   have:=(plB_in hv (h.inn.2.1 j hj).pl).2.2.1
   omega
 ·exact .inr (h.open hv (Nat.le_refl i) hi h1)
theorem most_ge (hv:Small k v) (hq:PlanP v L P r) {n:Nat} (hn:n≤L.length):∀m:Nat,m≤L.length→seatN L r m≤mostN v L P (r.take n) m
 | 0,_=>by rw[seatN,mostN];omega
 | m+1,hm=>by
  have ih:=most_ge hv hq hn m (by omega)
  have hl:=hq.len
  have ht:(r.take n).length=n:=by rw[List.length_take];omega
  have hsz:=hq.inn.2.2.2 m (by omega)
  rw[seatN,mostN,ht]
  by_cases h:0≤aI r (m:Int)
  ·rw[if_pos h]
   rcases Nat.lt_or_ge m n with q | q
   ·rw[if_pos (.inl ⟨q,by rw[aI_take (by omega) (by omega)];exact h⟩)];omega
   ·rw[if_pos (.inr ⟨q,List.length_pos_of_mem (hq.open hv q (by omega) (by omega))⟩)];omega
  ·rw[if_neg h]
   split <;> omega
theorem most_full (hl:r.length=L.length):∀m:Nat,m≤L.length→mostN v L P r m=seatN L r m
 | 0,_=>rfl
 | m+1,hm=>by
  rw[mostN,seatN,most_full hl m (by omega)]
  by_cases h:0≤aI r (m:Int)
  ·rw[if_pos h,if_pos (.inl ⟨by omega,h⟩)]
  ·rw[if_neg h,if_neg (fun x=>by rcases x with x | x;exact h x.2;omega)]
structure BCtx (v:Venue) (L:List Party) (P:List Pin):Prop where
 pr:Prob v L
 l4:P.length≤4
 ok:PinOK v L P
theorem BCtx.small (h:BCtx v L P):Small 20000 v:=h.pr.small (by omega) (by omega)
theorem StateP.ok (hv:Small k v) (h:StateP v L P r):∀i:Nat,i < r.length→okI (aI r (i:Int)):=fun i hi=>by
 by_cases h1:aI r (i:Int) = -1
 ·rw[h1];exact⟨by omega,by omega⟩
 ·obtain⟨_,h1,h2,h3⟩:=plB_in hv ((h.at_ i hi).pl h1)
  have:=hv.hs
  have:=hv.b
  exact⟨by omega,by omega⟩
end
end Go.Px

set_option linter.unusedVariables false
set_option linter.unusedSimpArgs false
namespace Go.Px
open Go Go.Sh
noncomputable def domL (v:Venue) (L:List Party) (P:List Pin) (r:List Int) (i:Nat):List Int:=if i < r.length then (if aI r (i:Int) = -1 then [] else [aI r (i:Int)]) else openL v L P r (i:Int)
noncomputable def lvl (v:Venue) (L:List Party) (P:List Pin) (r:List Int):List (List Int):=(List.range L.length).map (domL v L P r)
noncomputable def lvsL (v:Venue) (L:List Party) (P:List Pin) (r:List Int):List (List (List Int)):=(List.range (r.length+1)).map (fun m=>lvl v L P (r.take m))
noncomputable def setOf (v:Venue) (L:List Party) (P:List Pin):PlanSet:=PlanSet.mk (PlaceHall.mk v (usL v)) L (pmN P P.length)
noncomputable def mkP (v:Venue) (L:List Party) (P:List Pin) (r:List Int):PropProp:=PropProp.mk (setOf v L P) (lvsL v L P r) r
theorem map_range_at {α:Type} [Inhabited α] {f:Nat → α} {n i:Nat} (h:i < n):aI ((List.range n).map f) (i:Int)=f i:=by
 unfold aI
 rw[Int.toNat_natCast,List.getD_eq_getElem?_getD,List.getElem?_map,List.getElem?_range h]
 rfl
section
variable {k:Nat} {v:Venue} {L:List Party} {P:List Pin} {r:List Int}
theorem lvl_len:(lvl v L P r).length=L.length:=by unfold lvl;simp
theorem lvl_at {i:Nat} (h:i < L.length):aI (lvl v L P r) (i:Int)=domL v L P r i:=map_range_at h
theorem lvsL_len:(lvsL v L P r).length=r.length+1:=by unfold lvsL;simp
theorem lvsL_at {m:Nat} (h:m≤r.length):aI (lvsL v L P r) (m:Int)=lvl v L P (r.take m):=map_range_at (by omega)
theorem lvsL_snoc {x:Int} : lvsL v L P (r++[x])=lvsL v L P r++[lvl v L P (r++[x])]:=by
 unfold lvsL
 rw[List.length_append,List.length_singleton,List.range_succ,List.map_append]
 congr 1
 ·refine List.map_congr_left fun m hm=>?_
  have:=List.mem_range.1 hm
  rw[List.take_append_of_le_length (by omega)]
 ·simp only[List.map_cons,List.map_nil]
  rw[List.take_of_length_le (by simp)]
theorem domL_pl (hv:Small k v) (hst:StateP v L P r) {i:Nat} (hi:i < L.length) {s:Int} (h:s ∈ domL v L P r i):plB v (aI L (i:Int)) s=true:=by
 unfold domL at h
 split at h
 ·rename_i hir
  split at h
  ·cases h
  ·rename_i hn
   rw[List.mem_singleton] at h
   rw[h]
   exact(hst.at_ i hir).pl hn
 ·exact((openL_mem hv).1 h).1
theorem domL_len {i:Nat} (hn:1≤v.Seats.length):(domL v L P r i).length≤v.Seats.length:=by
 unfold domL
 split
 ·split
  ·simp
  ·simp;omega
 ·exact openL_len
theorem prop_apart_eq (hv:Small k v) (hM:MayV v) (hk:1000 < k) {M:List (Int×Int)} {l:List Int} {i j f:Int} (hi:0≤i∧i < L.length) (hj:0≤j∧j < L.length) (hl:l.length < k) (hs:∀s,s ∈ l→plB v (aI L i) s=true) (hf:plB v (aI L j) f=true) :
  prop_apart k (PlanSet.mk (PlaceHall.mk v (usL v)) L M) l i j f=some (l.filter (fun s=>aptB v (aI L i) s (aI L j) f)):=by
 have hb:=hv.b
 unfold prop_apart
 have e2:=gather0 (f:=fun n a q=>prop_apart_l0 k (PlanSet.mk (PlaceHall.mk v (usL v)) L M) l i j f n a q) (len:=l.length) (c:=0) (fun q:Nat=>aptB v (aI L i) (aI l (q:Int)) (aI L j) f) (fun q:Nat=>aI l (q:Int))
  (fun n q w hq hw=>by
   show prop_apart_l0 k (PlanSet.mk (PlaceHall.mk v (usL v)) L M) l i j f (n+1) w (q:Int)=prop_apart_l0 k (PlanSet.mk (PlaceHall.mk v (usL v)) L M) l i j f n _ _
   rw[prop_apart_l0]
   simp only
   rw[condD (by omega),bindS (idx_aI (by omega) (by omega)),bindS (idx_aI hi.1 hi.2),bindS (idx_aI hj.1 hj.2),bindS (hall_Apart hv hM hk (hs _ (aI_mem (by omega) (by omega))) hf),wr_succ (by omega)]
   cases aptB v (aI L i) (aI l (q:Int)) (aI L j) f
   ·rw[cond_false,if_neg (by simp)]
   ·rw[cond_true,gdD (by simp only[List.length_singleton];omega),if_pos rfl])
  (fun n w=>by show prop_apart_l0 k (PlanSet.mk (PlaceHall.mk v (usL v)) L M) l i j f (n+1) w _=_;rw[prop_apart_l0,condN (by omega)])
  (k:=k) hl [] (by simp)
 have e2:prop_apart_l0 k (PlanSet.mk (PlaceHall.mk v (usL v)) L M) l i j f k [] 0=_:=e2
 rw[bindS e2,List.nil_append]
 congr 1
 have h2:((List.range l.length).map (fun j:Nat=>aI l (j:Int)))=l:=by rw[range_map_aI (l:=l) (f:=fun s=>s),List.map_id']
 have h3:∀(p:Int→Bool) (R:List Nat),(R.filter (fun j:Nat=>p (aI l (j:Int)))).map (fun j:Nat=>aI l (j:Int))=(R.map (fun j:Nat=>aI l (j:Int))).filter p:=fun p R=>by
  rw[List.filter_map]
  rfl
 rw[h3 (fun s=>aptB v (aI L i) s (aI L j) f),h2]
theorem mrun_set {i:Nat} {w:List (List Int)} {good:Int×Int→Int→Bool} {step:Int×Int→List (List Int)→Option (Ex (List (List Int)) (List (List Int)))} {fin:List (List Int)→Option (List (List Int))} (hf:∀u,fin u=some u) {A0:List Int} :
  ∀(σ:List (Int×Int)) (A:List Int),(∀s,s ∈ A→s ∈ A0)→A.length≤A0.length→(∀p,p ∈ σ→∀B:List Int,(∀s,s ∈ B→s ∈ A0)→B.length≤A0.length→step p (w.set i B)=some (.go (w.set i (B.filter (good p)))))→mrun step fin σ (w.set i A)=some (w.set i (A.filter fun s => σ.all fun p=>good p s))
 | [],A,_,_,_=>by
  rw[mrun,hf]
  congr 2
  exact(List.filter_eq_self.2 fun _ _=>rfl).symm
 | p :: σ,A,hA,hl,h=>by
  rw[mrun,h p (by simp) A hA hl]
  have hl2:=List.length_filter_le (good p) A
  have ih:=mrun_set hf σ (A.filter (good p)) (fun s hs=>hA s (List.mem_filter.1 hs).1) (by omega) (fun q hq=>h q (by simp [hq]))
  show mrun step fin σ (w.set i (A.filter (good p)))=_
  rw[ih,List.filter_filter]
  congr 2
  refine List.filter_congr fun s _=>?_
  rw[List.all_cons,Bool.and_comm]
theorem prop_New_l2_eq (hv:Small k v) (hk:1000 < k) (hI:InOK v L P) (hL:L.length < k) {b:Bool} : prop_New_l2 k L (setOf v L P,b) k (List.replicate L.length []) 0=some (lvl v L P []):=by
 have hb:=hv.b
 have hM:=hI.1
 have hN:=hv.hs
 have hlen:=hI.2.2.1
 have e:=fill0 (f:=fun n w i=>prop_New_l2 k L (setOf v L P,b) n w i) (len:=L.length) (domL v L P [])
  (fun n i w hi hw=>by
   show prop_New_l2 k L (setOf v L P,b) (n+1) w (i:Int)=prop_New_l2 k L (setOf v L P,b) n _ _
   have hmg:mget (setOf v L P).Pins (i:Int)=pinAt P (i:Int):=rfl
   have hdom:domL v L P [] i=openL v L P [] (i:Int):=by unfold domL;rw[if_neg (by simp)]
   rw[prop_New_l2]
   simp only
   rw[condD (by omega),hmg,wr_succ (by omega),hdom,Int.toNat_natCast]
   cases hp:pinAt P (i:Int) with
   | some f =>
    obtain⟨j,hj,h1,h2⟩:=pinAt_some hp
    have hG:=hI.2.1 j hj
    have hpl:=hG.pl
    rw[h1,h2] at hpl
    have hmem:f ∈ openL v L P [] (i:Int):=(openL_mem hv).2 ⟨hpl,⟨fun q hq=>absurd hq (by simp),fun q hq hne=>by
     rcases Nat.lt_trichotomy q j with x | x | x
     ·have:=hG.ap q x
      rw[h1,h2] at this
      exact this
     ·subst x;exact absurd h1 hne
     ·have:=(hI.2.1 q hq).ap j x
      rw[h1,h2,aptB_symm] at this
      exact this⟩,fun f' e=>by rw[hp] at e;cases e;rfl⟩
    have hone:openL v L P [] (i:Int)=[f]:=by
     have h:=(openL_mem hv).1 hmem
     unfold openL
     rw[filter_one (allV_sorted _) (f:=f) ((allV_mem hv).2 hpl) (fun s hs=>(dB_iff.1 hs).2 f hp),if_pos (dB_T ⟨h.2.1,h.2.2⟩)]
    rw[Option.isSome_some,cond_true,bindS (idx_aI (l:=w) (by omega) (by omega)),Option.getD_some,hone]
   | none =>
    have hall:place_Hall_All k (setOf v L P).H (aI L (i:Int))=some (allV v (aI L (i:Int))):=by
     rw[show(setOf v L P).H=PlaceHall.mk v (usL v) from rfl,place_Hall_All_eq _ hv.hs hb hk]
     unfold allV
     rw[mayB_iff.2 hM]
     rfl
    have hal:=allV_len v (aI L (i:Int))
    rw[Option.isSome_none,cond_false,bindS (idx_aI (l:=L) (by omega) (by omega)),bindS hall,bindS (idx_aI (l:=w) (by omega) (by omega))]
    have hst:∀p,p ∈ pmN P P.length→∀B:List Int,(∀s,s ∈ B→s ∈ allV v (aI L (i:Int)))→B.length≤(allV v (aI L (i:Int))).length→prop_New_l3_st k (setOf v L P,b) (i:Int) p (w.set i B)=some (.go (w.set i (B.filter (fun s=>aptB v (aI L (i:Int)) s (aI L p.1) p.2)))):=fun p hp' B hB hBl=>by
     obtain⟨j,hj,rfl⟩:=(pmN_mem hI.2.1.rise (Nat.le_refl _)).1 hp'
     have hG:=hI.2.1 j hj
     have hg:idx (w.set i B) (i:Int)=some B:=by
      rw[idx_aI (by omega) (by rw[List.length_set];omega),aI_set (by omega),if_pos rfl]
     unfold prop_New_l3_st
     have ea:prop_apart k (setOf v L P) B (i:Int) (aI P (j:Int)).Party (aI P (j:Int)).First=_:=prop_apart_eq (M:=pmN P P.length) hv hM hk ⟨by omega,by omega⟩ ⟨hG.lo,hG.hi⟩ (by omega) (fun s hs=>(allV_mem hv).1 (hB s hs)) hG.pl
     simp only
     rw[bindS hg,bindS ea,bindS hg,Int.toNat_natCast,List.set_set]
    have hmr:prop_New_l3 k (setOf v L P,b) (i:Int) (setOf v L P).Pins (w.set i (allV v (aI L (i:Int))))=some (w.set i (openL v L P [] (i:Int))):=by
     unfold prop_New_l3
     refine mrange_of fun τ hτ=>?_
     refine(mrun_set (step:=fun p u=>prop_New_l3_st k (setOf v L P,b) (i:Int) p u) (fin:=fun u=>prop_New_l3_fin k (setOf v L P,b) (i:Int) u) (fun u=>rfl) τ (allV v (aI L (i:Int))) (fun s h=>h) (Nat.le_refl _) (fun p hp'=>hst p (hτ.mem_iff.1 hp'))).trans ?_
     congr 2
     unfold openL
     refine List.filter_congr fun s hs=>?_
     rw[Bool.eq_iff_iff,List.all_eq_true,dB_iff]
     constructor
     ·intro h
      refine⟨⟨fun q hq=>absurd hq (by simp),fun q hq hne=>?_⟩,fun f e=>by rw[hp] at e;cases e⟩
      exact h ((aI P (q:Int)).Party,(aI P (q:Int)).First) (hτ.mem_iff.2 ((pmN_mem hI.2.1.rise (Nat.le_refl _)).2 ⟨q,hq,rfl⟩))
     ·intro h p hp'
      obtain⟨j,hj,rfl⟩:=(pmN_mem hI.2.1.rise (Nat.le_refl _)).1 (hτ.mem_iff.1 hp')
      refine h.1.pins j hj fun e=>?_
      have:=pinAt_get hI.2.1.rise hj
      rw[e,hp] at this
      cases this
    rw[bindS hmr])
  (fun n w hw=>by show prop_New_l2 k L (setOf v L P,b) (n+1) w _=_;rw[prop_New_l2,condN (by omega)])
  (k:=k) hL (List.replicate L.length []) (by simp)
 exact e
theorem prop_New_eq (hv:Small k v) (hk:1000 < k) (hL:L.length < k) (hP:P.length < k) (ho:∀i:Nat,i < P.length→okI (aI P (i:Int)).First):prop_New k v L P=some (if dB (InOK v L P)=true then (some (mkP v L P []),0) else (none,1)):=by
 have hb:=hv.b
 obtain⟨S,e,hS⟩:=plan_In_eq hv hk hL hP ho
 unfold prop_New
 rw[bindS e]
 rcases Classical.em (InOK v L P) with h | h
 ·have e2:=prop_New_l2_eq (b:=true) hv hk h hL
  rw[dB_T h,cNT,hS h,gdD (by omega),Int.toNat_natCast,if_pos rfl]
  have e2:prop_New_l2 k L (PlanSet.mk (PlaceHall.mk v (usL v)) L (pmN P P.length),true) k (List.replicate L.length []) 0=_:=e2
  rw[bindS e2]
  rfl
 ·rw[dB_F h,cNF,if_neg (by simp)]
theorem prop_now_eq (hr:r.length≤1000):prop_Prop_now k (mkP v L P r)=some (lvl v L P r):=by
 unfold prop_Prop_now mkP
 simp only
 have hl:(lvsL v L P r).length=r.length+1:=lvsL_len
 rw[hl,show wr (((r.length+1:Nat):Int)-1)=(r.length:Int) by rw[wr_id (by omega) (by omega)];omega,bindS (idx_aI (by omega) (by omega)),lvsL_at (Nat.le_refl _),List.take_length]
theorem prop_has_eq (i:Int):prop_Prop_has k (mkP v L P r) i=some (decide (0≤i∧i < L.length)):=by
 unfold prop_Prop_has
 by_cases h:i < 0
 ·rw[condD h,decide_eq_false (by omega)]
 ·rw[condN h]
  congr 1
  rw[decide_eq_decide]
  show i < ((setOf v L P).L.length:Int) ↔ _
  have:(setOf v L P).L=L:=rfl
  rw[this]
  omega
theorem prop_Depth_eq:prop_Prop_Depth k (mkP v L P r)=some (r.length:Int):=rfl
theorem prop_Pinned_eq {i:Nat} (h:i < L.length):prop_Prop_Pinned k (mkP v L P r) (i:Int)=some ((pinAt P (i:Int)).isSome):=by
 unfold prop_Prop_Pinned
 rw[bindS (prop_has_eq _),decide_eq_true (by omega),cNT]
 rfl
theorem domL_next (hv:Small k v) {x:Int} {j:Nat} (h:NextP v L P r x) (hj:r.length < j):domL v L P (r++[x]) j=if x = -1 then domL v L P r j else (domL v L P r j).filter (fun s=>aptB v (aI L (j:Int)) s (aI L (r.length:Int)) x):=by
 have hl:(r++[x]).length=r.length+1:=by simp
 have d1:domL v L P (r++[x]) j=openL v L P (r++[x]) (j:Int):=by unfold domL;rw[if_neg (by omega)]
 have d2:domL v L P r j=openL v L P r (j:Int):=by unfold domL;rw[if_neg (by omega)]
 rw[d1,d2]
 have hfree:∀s,FreeP v L P (r++[x]) (j:Int) s ↔ FreeP v L P r (j:Int) s∧(¬x = -1→aptB v (aI L (j:Int)) s (aI L (r.length:Int)) x=true):=fun s=>by
  constructor
  ·intro hf
   refine⟨⟨fun q hq hn=>?_,hf.pins⟩,fun hn=>?_⟩
   ·have:=hf.plan q (by omega)
    rw[aI_lt hq] at this
    exact this hn
   ·have:=hf.plan r.length (by omega)
    rw[aI_last rfl] at this
    exact this hn
  ·rintro ⟨a,b⟩
   refine⟨fun q hq hn=>?_,a.pins⟩
   by_cases hqr:q < r.length
   ·rw[aI_lt hqr] at hn ⊢
    exact a.plan q hqr hn
   ·obtain rfl:q=r.length:=by omega
    rw[aI_last rfl] at hn ⊢
    exact b hn
 unfold openL
 split
 ·rename_i hx
  refine List.filter_congr fun s _=>?_
  rw[Bool.eq_iff_iff,dB_iff,dB_iff,hfree s]
  exact⟨fun a=>⟨a.1.1,a.2⟩,fun a=>⟨⟨a.1,fun hn=>absurd hx hn⟩,a.2⟩⟩
 ·rename_i hx
  rw[List.filter_filter]
  refine List.filter_congr fun s _=>?_
  rw[Bool.eq_iff_iff,Bool.and_eq_true,dB_iff,dB_iff,hfree s]
  exact⟨fun a=>⟨a.1.2 hx,a.1.1,a.2⟩,fun a=>⟨⟨a.2.1,fun _=>a.1⟩,a.2.2⟩⟩
theorem NextP.state (hv:Small k v) {x:Int} (h:NextP v L P r x):StateP v L P (r++[x]):=by
 have hl:(r++[x]).length=r.length+1:=by simp
 refine⟨h.1.inn,by have:=h.2.1;omega,fun i hi=>?_⟩
 by_cases hir:i < r.length
 ·have hG:=h.1.at_ i hir
  refine⟨fun f hf=>by rw[aI_lt hir];exact hG.pin f hf,fun hn=>?_,fun hn j hj hnj=>?_⟩
  ·rw[aI_lt hir] at hn ⊢
   exact hG.pl hn
  ·rw[aI_lt hir] at hn ⊢
   rw[aI_lt (by omega)] at hnj ⊢
   exact hG.ap hn j hj hnj
 ·obtain rfl:i=r.length:=by omega
  rcases h.2.2 with⟨hx,hp⟩ | ho
  ·refine⟨fun f hf=>(by rw[hp] at hf;cases hf),fun hn=>?_,fun hn=>?_⟩
   ·rw[aI_last rfl] at hn;exact absurd hx hn
   ·rw[aI_last rfl] at hn;exact absurd hx hn
  ·obtain⟨h1,h2,h3⟩:=(openL_mem hv).1 ho
   refine⟨fun f hf=>by rw[aI_last rfl];exact h3 f hf,fun hn=>?_,fun hn j hj hnj=>?_⟩
   ·rw[aI_last rfl];exact h1
   ·rw[aI_last rfl]
    rw[aI_lt hj] at hnj ⊢
    exact h2.plan j hj hnj
theorem domL_lt {x:Int} {i:Nat} (h:i < r.length):domL v L P (r++[x]) i=domL v L P r i:=by
 have hl:(r++[x]).length=r.length+1:=by simp
 unfold domL
 rw[if_pos (by omega),if_pos h,aI_lt h]
theorem domL_last {x:Int} : domL v L P (r++[x]) r.length=if x = -1 then [] else [x]:=by
 have hl:(r++[x]).length=r.length+1:=by simp
 unfold domL
 rw[if_pos (by omega),aI_last rfl]
noncomputable def midL (v:Venue) (L:List Party) (P:List Pin) (r:List Int) (x:Int) (j:Nat):List (List Int):=(List.range L.length).map (fun i=>if i < j then domL v L P (r++[x]) i else domL v L P r i)
theorem midL_len {x:Int} {j:Nat} : (midL v L P r x j).length=L.length:=by unfold midL;simp
theorem midL_at {x:Int} {j i:Nat} (h:i < L.length):aI (midL v L P r x j) (i:Int)=if i < j then domL v L P (r++[x]) i else domL v L P r i:=map_range_at h
theorem push_l0 (hv:Small k v) (hk:1000 < k) {x:Int} (h:NextP v L P r x) (hx:¬x = -1):∀(d n j:Nat),j+d=L.length→d < n→r.length < j→prop_Prop_Push_l0 k (mkP v L P r) x (r.length:Int) n (midL v L P r x j) (j:Int)=some (lvl v L P (r++[x]))
 | d,0,j,_,hd,_=>absurd hd (by omega)
 | 0,n+1,j,hj,_,_=>by
  have hml:(midL v L P r x j).length=L.length:=midL_len
  rw[prop_Prop_Push_l0,condN (by omega)]
  congr 1
  refine aI_ext (by rw[midL_len,lvl_len]) fun i hi=>?_
  rw[midL_len] at hi
  rw[midL_at hi,lvl_at hi,if_pos (by omega)]
 | d+1,n+1,j,hj,hd,hr=>by
  have hb:=hv.b
  have hN:=hv.hs
  have hst:=h.1
  have hlen:=hst.inn.2.2.1
  have hml:(midL v L P r x j).length=L.length:=midL_len
  have hmj:aI (midL v L P r x j) (j:Int)=domL v L P r j:=by rw[midL_at (by omega),if_neg (by omega)]
  have hdl:=domL_len (v:=v) (L:=L) (P:=P) (r:=r) (i:=j) hst.inn.1.n0
  have hxo:x ∈ openL v L P r (r.length:Int):=by
   rcases h.2.2 with y | y
   ·exact absurd y.1 hx
   ·exact y
  have hxpl:=((openL_mem hv).1 hxo).1
  have ea:prop_apart k (mkP v L P r).s (domL v L P r j) (j:Int) (r.length:Int) x=_:=prop_apart_eq (M:=pmN P P.length) (L:=L) hv hst.inn.1 hk ⟨by omega,by omega⟩ ⟨by omega,by omega⟩ (by omega) (fun s hs=>domL_pl hv hst (by omega) hs) hxpl
  have hn:=domL_next (j:=j) hv h hr
  rw[if_neg hx] at hn
  rw[← hn] at ea
  rw[prop_Prop_Push_l0,condD (by omega),bindS (idx_aI (by omega) (by omega)),hmj,bindS ea,bindS (idx_aI (by omega) (by omega)),Int.toNat_natCast,wr_succ (by omega)]
  have e2:(midL v L P r x j).set j (domL v L P (r++[x]) j)=midL v L P r x (j+1):=by
   refine aI_ext (by rw[List.length_set,midL_len,midL_len]) fun i hi=>?_
   rw[List.length_set,midL_len] at hi
   rw[aI_set (by omega),midL_at hi,midL_at hi]
   by_cases hij:i=j
   ·subst hij
    rw[if_pos rfl,if_pos (by omega)]
   ·rw[if_neg hij]
    by_cases hlt:i < j
    ·rw[if_pos hlt,if_pos (by omega)]
    ·rw[if_neg hlt,if_neg (by omega)]
  rw[e2]
  exact push_l0 hv hk h hx d n (j+1) (by omega) (by omega) (by omega)
theorem prop_Push_eq (hv:Small k v) (hk:1000 < k) (hst:StateP v L P r) (x:Int):prop_Prop_Push k (mkP v L P r) x=some (if dB (NextP v L P r x)=true then (true,lvsL v L P (r++[x]),r++[x]) else (false,lvsL v L P r,r)):=by
 have hb:=hv.b
 have hM:=hst.inn.1
 have hN:=hv.hs
 have hlen:=hst.inn.2.2.1
 have hrl:=hst.len
 have hlv:(mkP v L P r).levels.length=r.length+1:=lvsL_len
 unfold prop_Prop_Push
 rw[bindS prop_Depth_eq,bindS (prop_has_eq _)]
 by_cases hnn:¬r.length < L.length
 ·rw[decide_eq_false (by omega),cNF,bindS rfl,cond_true,dB_F (fun y=>hnn y.2.1),if_neg (by simp)]
  rfl
 have hn:=Classical.not_not.1 hnn
 have hlvn:(lvl v L P r).length=L.length:=lvl_len
 have hdn:aI (lvl v L P r) (r.length:Int)=openL v L P r (r.length:Int):=by
  rw[lvl_at hn]
  unfold domL
  rw[if_neg (Nat.lt_irrefl _)]
 have hol:=openL_len (v:=v) (L:=L) (P:=P) (r:=r) (i:=(r.length:Int))
 rw[decide_eq_true ⟨by omega,by omega⟩,cNT,bindS (prop_Pinned_eq hn),bindS (prop_now_eq (by omega)),bindS (idx_aI (l:=lvl v L P r) (by omega) (by omega)),hdn,bindS (slices_Contains_int_eq k _ x (by omega) (by omega))]
 have hcl:slices_Clone_Lint k (lvl v L P r)=some (lvl v L P r):=by
  unfold slices_Clone_Lint
  rw[gdD (by simp only[List.length_nil];omega),List.nil_append]
 have hset:(lvl v L P r).set r.length []=(lvl v L P r).set r.length []:=rfl
 by_cases h1:x = -1
 ·rw[condD h1]
  cases hp:pinAt P (r.length:Int) with
  | some f =>
   rw[Option.isSome_some,cond_true,bindS rfl,cond_true,dB_F (fun y=>by
    rcases y.2.2 with⟨_,q⟩ | q
    ·rw[hp] at q;cases q
    ·have:=openL_ge hv q;omega),if_neg (by simp)]
   rfl
  | none =>
   have hnx:NextP v L P r x:=⟨hst,hn,.inl ⟨h1,hp⟩⟩
   have e2:(lvl v L P r).set r.length []=lvl v L P (r++[x]):=by
    refine aI_ext (by rw[List.length_set,lvl_len,lvl_len]) fun i hi=>?_
    rw[List.length_set,lvl_len] at hi
    rw[aI_set (by omega),lvl_at hi,lvl_at hi]
    by_cases hij:i=r.length
    ·rw[if_pos hij,hij,domL_last,if_pos h1]
    ·rw[if_neg hij]
     by_cases hlt:i < r.length
     ·rw[domL_lt hlt]
     ·rw[domL_next hv hnx (by omega),if_pos h1]
   rw[Option.isSome_none,cond_false,condNT h1,bindS rfl,cond_false,bindS (prop_now_eq (by omega)),bindS hcl,bindS (idx_aI (l:=lvl v L P r) (by omega) (by omega)),condNT h1,Int.toNat_natCast,e2,gdD (by simp only[List.length_singleton];omega),gdD (by show r.length+_≤_;simp only[List.length_singleton];omega),dB_T hnx,if_pos rfl,lvsL_snoc]
   rfl
 ·rw[condN h1,condNF h1,bindS rfl]
  by_cases h2:x ∈ openL v L P r (r.length:Int)
  ·have hnx:NextP v L P r x:=⟨hst,hn,.inr h2⟩
   have e2:((lvl v L P r).set r.length []).set r.length [x]=midL v L P r x (r.length+1):=by
    rw[List.set_set]
    refine aI_ext (by rw[List.length_set,lvl_len,midL_len]) fun i hi=>?_
    rw[List.length_set,lvl_len] at hi
    rw[aI_set (by omega),lvl_at hi,midL_at hi]
    by_cases hij:i=r.length
    ·rw[if_pos hij,if_pos (by omega),hij,domL_last,if_neg h1]
    ·rw[if_neg hij]
     by_cases hlt:i < r.length
     ·rw[if_pos (by omega),domL_lt hlt]
     ·rw[if_neg (by omega)]
   have el:=push_l0 hv hk hnx h1 (L.length-(r.length+1)) k (r.length+1) (by omega) (by omega) (by omega)
   rw[decide_eq_true h2,Bool.not_true,cond_false,bindS (prop_now_eq (by omega)),bindS hcl,bindS (idx_aI (l:=lvl v L P r) (by omega) (by omega)),condNF h1,Int.toNat_natCast,bindS (idx_aI (l:=(lvl v L P r).set r.length []) (by omega) (by rw[List.length_set];omega)),e2,wr_succ (by omega),bindS el,gdD (by simp only[List.length_singleton];omega),gdD (by show r.length+_≤_;simp only[List.length_singleton];omega),dB_T hnx,if_pos rfl,lvsL_snoc]
   rfl
  ·rw[decide_eq_false h2,Bool.not_false,cond_true,dB_F (fun y=>by
    rcases y.2.2 with q | q
    ·exact h1 q.1
    ·exact h2 q),if_neg (by simp)]
   rfl
end
end Go.Px

set_option linter.unusedVariables false
set_option linter.unusedSimpArgs false
namespace Go.Px
open Go Go.Sh
section
variable {k:Nat} {v:Venue} {L:List Party} {P:List Pin} {r:List Int}
theorem domL_pos {m:Nat} (hv:Small k v) (hst:StateP v L P r):(0 < (domL v L P r m).length) ↔ ((m < r.length∧0≤aI r (m:Int))∨(r.length≤m∧0 < (openL v L P r (m:Int)).length)):=by
 unfold domL
 by_cases h:m < r.length
 ·rw[if_pos h]
  by_cases h1:aI r (m:Int) = -1
  ·rw[if_pos h1]
   constructor
   ·intro x;exact absurd x (by simp)
   ·rintro (x | x)
    ·omega
    ·omega
  ·rw[if_neg h1]
   have:=hst.ge hv h h1
   exact⟨fun _ => .inl ⟨h,this⟩,fun _=>by simp⟩
 ·rw[if_neg h]
  exact⟨fun x => .inr ⟨by omega,x⟩,fun x=>by rcases x with x | x;exact absurd x.1 h;exact x.2⟩
theorem prop_Most_l0_eq (hv:Small k v) (hst:StateP v L P r):∀(d n i:Nat),i+d=L.length→d < n→prop_Prop_Most_l0 k (mkP v L P r) (lvl v L P r) n (mostN v L P r i) (i:Int)=some (mostN v L P r L.length)
 | d,0,i,_,h=>absurd h (by omega)
 | 0,n+1,i,hi,_=>by
  have hl:(lvl v L P r).length=L.length:=lvl_len
  rw[prop_Prop_Most_l0,condN (by omega),show i=L.length by omega]
 | d+1,n+1,i,hi,hd=>by
  have hl:(lvl v L P r).length=L.length:=lvl_len
  have hA:=hst.inn.2.2
  have h1:=hA.1
  have h2:=hA.2 i (by omega)
  have h3:=mostN_bd (v:=v) (P:=P) (r:=r) hA (n:=i) (by omega)
  have ih:=prop_Most_l0_eq hv hst d n (i+1) (by omega) (by omega)
  have hx:idx (mkP v L P r).s.L (i:Int)=some (aI L (i:Int)):=idx_aI (l:=L) (by omega) (by omega)
  rw[mostN] at ih
  rw[prop_Prop_Most_l0,condD (by omega),bindS (idx_aI (by omega) (by omega)),lvl_at (by omega),wr_succ (by omega)]
  by_cases h:0 < (domL v L P r i).length
  ·rw[if_pos ((domL_pos hv hst).1 h)] at ih
   rw[condD (by omega),bindS hx,wr_id (by omega) (by omega),ih]
  ·rw[if_neg (fun x=>h ((domL_pos hv hst).2 x)),Int.add_zero] at ih
   rw[condN (by omega),ih]
theorem prop_Most_eq (hv:Small k v) (hk:1000 < k) (hst:StateP v L P r):prop_Prop_Most k (mkP v L P r)=some (mostN v L P r L.length):=by
 have h1:=hst.inn.2.2.1
 have h2:=hst.len
 unfold prop_Prop_Most
 have e:=prop_Most_l0_eq hv hst L.length k 0 (by omega) (by omega)
 have e:prop_Prop_Most_l0 k (mkP v L P r) (lvl v L P r) k 0 0=_:=e
 rw[bindS (prop_now_eq (by omega)),bindS e]
theorem prop_Domain_eq (hst:StateP v L P r) (i:Int):prop_Prop_Domain k (mkP v L P r) i=some (if 0≤i∧i < L.length then domL v L P r i.toNat else []):=by
 have h1:=hst.inn.2.2.1
 have h2:=hst.len
 have hM:=hst.inn.1
 have hn1:=hM.n1
 unfold prop_Prop_Domain
 rw[bindS (prop_has_eq _)]
 by_cases h:0≤i∧i < L.length
 ·have hl:(lvl v L P r).length=L.length:=lvl_len
  have b:=domL_len (v:=v) (L:=L) (P:=P) (r:=r) (i:=i.toNat) hM.n0
  have hat:aI (lvl v L P r) i=domL v L P r i.toNat:=by
   have:=lvl_at (v:=v) (L:=L) (P:=P) (r:=r) (i:=i.toNat) (by omega)
   rw[show((i.toNat:Nat):Int)=i by omega] at this
   exact this
  rw[decide_eq_true h,cNT,bindS (prop_now_eq (by omega)),bindS (idx_aI (by omega) (by omega)),hat,if_pos h]
  unfold slices_Clone_int
  rw[gdD (by simp only[List.length_nil];omega),List.nil_append]
  rfl
 ·rw[decide_eq_false h,cNF,if_neg h]
  rfl
theorem prop_Plan_eq (hr:r.length≤1000):prop_Prop_Plan k (mkP v L P r)=some r:=by
 unfold prop_Prop_Plan slices_Clone_Plan_int
 have:(mkP v L P r).p=r:=rfl
 rw[this,gdD (by simp only[List.length_nil];omega),List.nil_append]
 rfl
theorem lvsL_take {n:Nat} (h:n < r.length):(lvsL v L P r).take (n+1)=lvsL v L P (r.take n):=by
 have hl:(r.take n).length=n:=by rw[List.length_take];omega
 unfold lvsL
 rw[← List.map_take,hl,List.take_range,Nat.min_eq_left (by omega)]
 refine List.map_congr_left fun m hm=>?_
 have:=List.mem_range.1 hm
 rw[List.take_take,Nat.min_eq_left (by omega)]
theorem prop_Pop_eq (hr:r.length≤1000):prop_Prop_Pop k (mkP v L P r)=some (if r.length=0 then (false,lvsL v L P r,r) else (true,lvsL v L P (r.take (r.length-1)),r.take (r.length-1))):=by
 have hlv:(mkP v L P r).levels.length=r.length+1:=lvsL_len
 have hp:(mkP v L P r).p=r:=rfl
 unfold prop_Prop_Pop
 rw[bindS prop_Depth_eq]
 by_cases h:r.length=0
 ·rw[condD (by omega),if_pos h];rfl
 ·have e1:wr (((r.length+1:Nat):Int)-1)=(r.length:Int):=by rw[wr_id (by omega) (by omega)];omega
  have e2:wr ((r.length:Int)-1)=((r.length-1:Nat):Int):=by rw[wr_id (by omega) (by omega)];omega
  rw[condN (by omega),hlv,hp,e1,e2,gdD (by omega),gdD (by omega),if_neg h,Int.toNat_natCast,Int.toNat_natCast]
  have:=lvsL_take (v:=v) (L:=L) (P:=P) (r:=r) (n:=r.length-1) (by omega)
  rw[show r.length-1+1=r.length by omega] at this
  rw[← this]
  rfl
theorem StateP.take (h:StateP v L P r) (n:Nat):StateP v L P (r.take n):=by
 have hl:=h.len
 refine⟨h.inn,by rw[List.length_take];omega,fun i hi=>?_⟩
 rw[List.length_take] at hi
 have hG:=h.at_ i (by omega)
 refine⟨fun f hf=>by rw[aI_take (by omega) (by omega)];exact hG.pin f hf,fun hn=>?_,fun hn j hj hnj=>?_⟩
 ·rw[aI_take (by omega) (by omega)] at hn ⊢
  exact hG.pl hn
 ·rw[aI_take (by omega) (by omega)] at hn hnj ⊢
  rw[aI_take (by omega) (by omega)]
  exact hG.ap hn j hj hnj
theorem StateP_nil (hI:InOK v L P):StateP v L P []:=⟨hI,by simp,fun i hi=>absurd hi (by simp)⟩
end
end Go.Px

set_option linter.unusedVariables false
set_option linter.unusedSimpArgs false
namespace Go.Px
open Go Go.Sh
structure HS where
 plan:List Int
 most:Int
 nodes:Int
 tree:List Bool
noncomputable def rowRun (f:Int→HS→HS×Bool):List Int→HS→HS×Bool
 | [],s=>(s,true)
 | x::xs,s=>if (f x s).2=true then rowRun f xs (f x s).1 else f x s
noncomputable def rowL (v:Venue) (L:List Party) (P:List Pin) (r:List Int):List Int:=openL v L P r (r.length:Int)++(if (pinAt P (r.length:Int)).isSome=true then [] else [-1])
noncomputable def leafS (v:Venue) (L:List Party) (P:List Pin) (r:List Int) (s:HS):HS:=if s.most < mostN v L P r L.length then ⟨r,mostN v L P r L.length,s.nodes+1,s.tree⟩ else ⟨s.plan,s.most,s.nodes+1,s.tree⟩
noncomputable def hunt (v:Venue) (L:List Party) (P:List Pin) (fuel:Int):Nat→List Int→HS→HS×Bool
 | 0,r,s=>if fuel≤s.nodes then (s,false) else (leafS v L P r s,true)
 | d+1,r,s=>if fuel≤s.nodes then (s,false) else if s.most < mostN v L P r L.length then rowRun (fun x s=>hunt v L P fuel d (r++[x]) s) (rowL v L P r) ⟨s.plan,s.most,s.nodes+1,s.tree++[true]⟩ else (⟨s.plan,s.most,s.nodes+1,s.tree++[false]⟩,true)
section
variable {k:Nat} {v:Venue} {L:List Party} {P:List Pin} {r:List Int} {fuel:Int}
structure HInv (fuel:Int) (s:HS):Prop where
 n0:0≤s.nodes
 t:(s.tree.length:Int)≤s.nodes
theorem rowRun_inv {f:Int→HS→HS×Bool} (hf:∀x s,HInv fuel s→HInv fuel (f x s).1):∀(l:List Int) (s:HS),HInv fuel s→HInv fuel (rowRun f l s).1
 | [],s,h=>h
 | x::xs,s,h=>by
  rw[rowRun]
  split
  ·exact rowRun_inv hf xs _ (hf x s h)
  ·exact hf x s h
theorem hunt_inv:∀(d:Nat) (r:List Int) (s:HS),HInv fuel s→HInv fuel (hunt v L P fuel d r s).1
 | 0,r,s,h=>by
  have h1:=h.n0
  have h2:=h.t
  rw[hunt]
  split
  ·exact h
  ·unfold leafS
   split
   ·exact⟨by show 0≤s.nodes+1;omega,by show(s.tree.length:Int)≤s.nodes+1;omega⟩
   ·exact⟨by show 0≤s.nodes+1;omega,by show(s.tree.length:Int)≤s.nodes+1;omega⟩
 | d+1,r,s,h=>by
  have h1:=h.n0
  have h2:=h.t
  have hs:∀b:Bool,HInv fuel ⟨s.plan,s.most,s.nodes+1,s.tree++[b]⟩:=fun b=>⟨by show 0≤s.nodes+1;omega,by show((s.tree++[b]).length:Int)≤s.nodes+1;rw[List.length_append,List.length_singleton];omega⟩
  rw[hunt]
  split
  ·exact h
  ·split
   ·exact rowRun_inv (fun x s hs=>hunt_inv d (r++[x]) s hs) _ _ (hs true)
   ·exact hs false
theorem rowL_next (hv:Small k v) (hst:StateP v L P r) (hr:r.length < L.length) {x:Int} (h:x ∈ rowL v L P r):NextP v L P r x:=by
 unfold rowL at h
 rcases List.mem_append.1 h with h | h
 ·exact⟨hst,hr,.inr h⟩
 ·split at h
  ·cases h
  ·rename_i hn
   rw[List.mem_singleton] at h
   refine⟨hst,hr,.inl ⟨h,?_⟩⟩
   cases hp:pinAt P (r.length:Int) with
   | none=>rfl
   | some f=>rw[hp] at hn;exact absurd rfl hn
theorem rowL_len:(rowL v L P r).length≤v.Seats.length+1:=by
 unfold rowL
 have:=openL_len (v:=v) (L:=L) (P:=P) (r:=r) (i:=(r.length:Int))
 rw[List.length_append]
 split <;> simp <;> omega
theorem search_Row_eq (hst:StateP v L P r) (hr:r.length < L.length):search_Row k (mkP v L P r)=some (rowL v L P r):=by
 have hM:=hst.inn.1
 have hn1:=hM.n1
 have hd:domL v L P r r.length=openL v L P r (r.length:Int):=by unfold domL;rw[if_neg (Nat.lt_irrefl _)]
 have hol:=openL_len (v:=v) (L:=L) (P:=P) (r:=r) (i:=(r.length:Int))
 unfold search_Row
 rw[bindS prop_Depth_eq,bindS (prop_Domain_eq hst _),if_pos ⟨by omega,by omega⟩,Int.toNat_natCast,hd,bindS (prop_Pinned_eq hr)]
 unfold rowL
 cases (pinAt P (r.length:Int)).isSome
 ·rw[cNF,gdD (by simp only[List.length_singleton];omega),if_neg (by simp)]
 ·rw[cNT,if_pos rfl,List.append_nil]
def upR (r:List Int):List Int:=r.take (r.length-1)
theorem pop_up (hr:r.length≤1000):∃b,prop_Prop_Pop k (mkP v L P r)=some (b,lvsL v L P (upR r),upR r):=by
 rw[prop_Pop_eq hr]
 unfold upR
 by_cases h:r.length=0
 ·obtain rfl:=List.length_eq_zero_iff.1 h
  exact⟨false,rfl⟩
 ·rw[if_neg h];exact⟨true,rfl⟩
theorem upR_snoc {x:Int} : upR (r++[x])=r:=by
 unfold upR
 rw[List.length_append,List.length_singleton,Nat.add_sub_cancel,List.take_left']
 rfl
noncomputable def lookS (v:Venue) (L:List Party) (P:List Pin) (fuel:Int) (r:List Int) (s:HS) (st:List SearchRow):Bool×List Int×HS×List SearchRow :=
 if fuel≤s.nodes then (false,r,s,st) else if r.length=L.length then (true,upR r,leafS v L P r s,st) else if s.most < mostN v L P r L.length then (true,r,⟨s.plan,s.most,s.nodes+1,s.tree++[true]⟩,st++[SearchRow.mk (rowL v L P r) 0]) else (true,upR r,⟨s.plan,s.most,s.nodes+1,s.tree++[false]⟩,st)
theorem look_eq (hv:Small k v) (hk:1000 < k) (hst:StateP v L P r) (hf:fuel≤1073741824) {s:HS} (hs:HInv fuel s) {st:List SearchRow} (hsl:st.length≤1000) (A:Int):search_hunt_look k (SearchHunt.mk (mkP v L P r) L (SearchResult.mk A s.plan s.nodes s.tree) s.most fuel st) =
  some ((lookS v L P fuel r s st).1,lvsL v L P (lookS v L P fuel r s st).2.1,(lookS v L P fuel r s st).2.1,SearchResult.mk A (lookS v L P fuel r s st).2.2.1.plan (lookS v L P fuel r s st).2.2.1.nodes (lookS v L P fuel r s st).2.2.1.tree,(lookS v L P fuel r s st).2.2.1.most,(lookS v L P fuel r s st).2.2.2):=by
 have h1:=hst.inn.2.2.1
 have h2:=hst.len
 have hs1:=hs.n0
 have hs2:=hs.t
 unfold search_hunt_look lookS
 dsimp only
 by_cases h:fuel≤s.nodes
 ·rw[condD h,if_pos h]
  rfl
 obtain⟨b,eP⟩:=pop_up (k:=k) (v:=v) (L:=L) (P:=P) (r:=r) (by omega)
 have hw:wr (s.nodes+1)=s.nodes+1:=wr_id (by omega) (by omega)
 rw[condN h,if_neg h,bindS prop_Depth_eq,hw]
 by_cases hr:r.length=L.length
 ·rw[condD (by omega),if_pos hr,bindS (prop_Most_eq hv hk hst)]
  unfold leafS
  by_cases hm:s.most < mostN v L P r L.length
  ·rw[condD hm,bindS (prop_Plan_eq (by omega)),bindS rfl,bindS eP,if_pos hm]
  ·rw[condN hm,bindS rfl,bindS eP,if_neg hm]
 ·rw[condN (by omega),if_neg hr,bindS (prop_Most_eq hv hk hst)]
  by_cases hm:s.most < mostN v L P r L.length
  ·rw[condD hm,if_pos hm,bindS (search_Row_eq hst (by omega)),gdD (by simp only[List.length_singleton];omega),gdD (by simp only[List.length_singleton];omega)]
   rfl
  ·rw[condN hm,if_neg hm,gdD (by simp only[List.length_singleton];omega),bindS eP]
noncomputable def mach (k:Nat) (v:Venue) (L:List Party) (P:List Pin) (h0:SearchHunt) (A:Int) (n:Nat) (q:Bool×List Int×HS×List SearchRow):Option ((List (List (List Int)))×(List Int)×Int×(List Int)×Int×(List Bool)×Int×(List SearchRow)×Bool) :=
 search_hunt_run_l0 k h0 n (lvsL v L P q.2.1) q.2.1 A q.2.2.1.plan q.2.2.1.nodes q.2.2.1.tree q.2.2.1.most q.2.2.2 q.1
def stepsB:Nat→Nat
 | 0=>0
 | d+1=>10 * (1+stepsB d)+1
theorem mach_row (hv:Small k v) (hk:1000 < k) (hn9:v.Seats.length≤9) (hf:fuel≤1073741824) {h0:SearchHunt} (hh1:h0.p.s=setOf v L P) (hh2:h0.l=L) (hh3:h0.fuel=fuel) {A:Int} {d:Nat}
  (hmain:∀(r:List Int) (s:HS) (st:List SearchRow),r.length+d=L.length→StateP v L P r→HInv fuel s→st.length≤r.length+1→∃m q,m≤stepsB d∧(∀n,mach k v L P h0 A (n+m) (lookS v L P fuel r s st)=mach k v L P h0 A n q)∧q.1=(hunt v L P fuel d r s).2∧q.2.2.1=(hunt v L P fuel d r s).1∧(q.1=true→q.2.1=upR r∧q.2.2.2=st))
  (hr:r.length+(d+1)=L.length) (hst:StateP v L P r) {st:List SearchRow} (hsl:st.length≤r.length+1):∀(e a:Nat) (s:HS),a+e=(rowL v L P r).length→HInv fuel s →
  ∃m q,m≤e * (1+stepsB d)+1∧(∀n,mach k v L P h0 A (n+m) (true,r,s,st++[SearchRow.mk (rowL v L P r) (a:Int)])=mach k v L P h0 A n q)∧q.1=(rowRun (fun x s=>hunt v L P fuel d (r++[x]) s) ((rowL v L P r).drop a) s).2∧q.2.2.1=(rowRun (fun x s=>hunt v L P fuel d (r++[x]) s) ((rowL v L P r).drop a) s).1∧(q.1=true→q.2.1=upR r∧q.2.2.2=st):=by
 have hlen:=hst.inn.2.2.1
 have hrl:=rowL_len (v:=v) (L:=L) (P:=P) (r:=r)
 have hstl:∀a:Int,(st++[SearchRow.mk (rowL v L P r) a]).length=st.length+1:=fun a=>by simp
 have htop:∀a:Int,idx (st++[SearchRow.mk (rowL v L P r) a]) (st.length:Int)=some (SearchRow.mk (rowL v L P r) a):=fun a=>by
  refine idx_get (by omega) ?_
  rw[Int.toNat_natCast,List.getElem?_append_right (Nat.le_refl _),Nat.sub_self]
  rfl
 have hw:∀a:Int,wr (((st++[SearchRow.mk (rowL v L P r) a]).length:Int)-1)=(st.length:Int):=fun a=>by
  rw[hstl,wr_id (by omega) (by omega)];omega
 intro e
 induction e with
 | zero =>
  intro a s ha hs
  obtain⟨b,eP⟩:=pop_up (k:=k) (v:=v) (L:=L) (P:=P) (r:=r) (by omega)
  refine⟨1,(true,upR r,s,st),by omega,fun n=>?_,?_,?_,fun _=>⟨rfl,rfl⟩⟩
  ·unfold mach
   dsimp only
   rw[search_hunt_run_l0,hh1]
   have eP':prop_Prop_Pop k (PropProp.mk (setOf v L P) (lvsL v L P r) r)=_:=eP
   rw[cond_true,bindS rfl,decide_eq_true (by rw[hstl];omega),cond_true,hw,bindS (htop _)]
   dsimp only
   rw[condD (by omega),gdD (by rw[hstl];omega),bindS eP',Int.toNat_natCast,List.take_left']
   rfl
  ·rw[List.drop_eq_nil_of_le (by omega)];rfl
  ·rw[List.drop_eq_nil_of_le (by omega)];rfl
 | succ e ih =>
  intro a s ha hs
  have hx:idx (rowL v L P r) (a:Int)=some (aI (rowL v L P r) (a:Int)):=idx_aI (by omega) (by omega)
  have hnx:=rowL_next hv hst (by omega) (aI_mem (l:=rowL v L P r) (x:=(a:Int)) (by omega) (by omega))
  have hdrop:=drop_aI (l:=rowL v L P r) (i:=a) (by omega)
  generalize aI (rowL v L P r) (a:Int)=x at hx hnx hdrop
  have hst':=hnx.state hv
  have hl':(r++[x]).length=r.length+1:=by simp
  have eP:=prop_Push_eq (k:=k) hv hk hst x
  rw[dB_T hnx,if_pos rfl] at eP
  have eP':prop_Prop_Push k (PropProp.mk (setOf v L P) (lvsL v L P r) r) x=_:=eP
  have hset:(st++[SearchRow.mk (rowL v L P r) (a:Int)]).set st.length (SearchRow.mk (rowL v L P r) ((a+1:Nat):Int))=st++[SearchRow.mk (rowL v L P r) ((a+1:Nat):Int)]:=by
   rw[List.set_append_right _ _ (Nat.le_refl _),Nat.sub_self]
   rfl
  have eL:=look_eq (k:=k) (r:=r++[x]) hv hk hst' hf hs (st:=st++[SearchRow.mk (rowL v L P r) ((a+1:Nat):Int)]) (by rw[hstl];omega) A
  have hone:∀n,mach k v L P h0 A (n+1) (true,r,s,st++[SearchRow.mk (rowL v L P r) (a:Int)])=mach k v L P h0 A n (lookS v L P fuel (r++[x]) s (st++[SearchRow.mk (rowL v L P r) ((a+1:Nat):Int)])):=fun n=>by
   unfold mach
   dsimp only
   rw[search_hunt_run_l0,hh1,hh2,hh3,cond_true,bindS rfl,decide_eq_true (by rw[hstl];omega),cond_true,hw,bindS (htop _)]
   dsimp only
   have hwa:wr (wr ((a:Int)+1)-1)=(a:Int):=by rw[wr_id (x:=(a:Int)+1) (by omega) (by omega),wr_id (by omega) (by omega)];omega
   rw[condN (by omega),hwa,bindS hx,bindS eP',wr_succ (by omega),Int.toNat_natCast,hset]
   dsimp only
   have eL':search_hunt_look k (SearchHunt.mk (PropProp.mk (setOf v L P) (lvsL v L P (r++[x])) (r++[x])) L (SearchResult.mk A s.plan s.nodes s.tree) s.most fuel (st++[SearchRow.mk (rowL v L P r) ((a+1:Nat):Int)]))=_:=eL
   rw[bindS eL']
  obtain⟨m1,q1,hm1,hq1,hq2,hq3,hq4⟩:=hmain (r++[x]) s (st++[SearchRow.mk (rowL v L P r) ((a+1:Nat):Int)]) (by omega) hst' hs (by rw[hstl];omega)
  rw[hdrop,rowRun]
  cases hok:(hunt v L P fuel d (r++[x]) s).2
  ·rw[if_neg (by simp)]
   rw[hok] at hq2
   refine⟨m1+1,q1,?_,fun n=>?_,by rw[hq2,hok],hq3,fun h=>by rw[hq2] at h;cases h⟩
   ·rw[Nat.succ_mul];omega
   ·rw[show n+(m1+1)=(n+m1)+1 by omega,hone,hq1]
  ·rw[if_pos rfl]
   rw[hok] at hq2
   obtain⟨hp,hst4⟩:=hq4 hq2
   rw[upR_snoc] at hp
   obtain⟨m2,q,hm2,h1,h2,h3,h4⟩:=ih (a+1) (hunt v L P fuel d (r++[x]) s).1 (by omega) (hunt_inv d _ _ hs)
   have hq:q1=(true,r,(hunt v L P fuel d (r++[x]) s).1,st++[SearchRow.mk (rowL v L P r) ((a+1:Nat):Int)]):=by
    obtain⟨x1,x2,x3,x4⟩:=q1
    dsimp only at hq2 hq3 hp hst4
    rw[hq2,hq3,hp,hst4]
   refine⟨m1+m2+1,q,?_,fun n=>?_,h2,h3,h4⟩
   ·rw[Nat.succ_mul];omega
   ·rw[show n+(m1+m2+1)=((n+m2)+m1)+1 by omega,hone,hq1,hq,h1]
theorem mach_main (hv:Small k v) (hk:1000 < k) (hn9:v.Seats.length≤9) (hf:fuel≤1073741824) {h0:SearchHunt} (hh1:h0.p.s=setOf v L P) (hh2:h0.l=L) (hh3:h0.fuel=fuel) {A:Int} : ∀(d:Nat) (r:List Int) (s:HS) (st:List SearchRow),r.length+d=L.length→StateP v L P r→HInv fuel s→st.length≤r.length+1→∃m q,m≤stepsB d∧(∀n,mach k v L P h0 A (n+m) (lookS v L P fuel r s st)=mach k v L P h0 A n q)∧q.1=(hunt v L P fuel d r s).2∧q.2.2.1=(hunt v L P fuel d r s).1∧(q.1=true→q.2.1=upR r∧q.2.2.2=st)
 | 0,r,s,st,hr,hst,hs,hsl=>by
  refine⟨0,lookS v L P fuel r s st,Nat.le_refl _,fun n=>rfl,?_,?_,?_⟩
  ·unfold lookS
   rw[hunt]
   by_cases h:fuel≤s.nodes
   ·rw[if_pos h,if_pos h]
   ·rw[if_neg h,if_neg h,if_pos (by omega)]
  ·unfold lookS
   rw[hunt]
   by_cases h:fuel≤s.nodes
   ·rw[if_pos h,if_pos h]
   ·rw[if_neg h,if_neg h,if_pos (by omega)]
  ·unfold lookS
   by_cases h:fuel≤s.nodes
   ·rw[if_pos h];intro x;cases x
   ·rw[if_neg h,if_pos (by omega)];exact fun _=>⟨rfl,rfl⟩
 | d+1,r,s,st,hr,hst,hs,hsl=>by
  have hs1:=hs.n0
  have hs2:=hs.t
  have hrl:=rowL_len (v:=v) (L:=L) (P:=P) (r:=r)
  rw[hunt]
  unfold lookS
  by_cases h:fuel≤s.nodes
  ·rw[if_pos h,if_pos h]
   exact⟨0,(false,r,s,st),by omega,fun n=>rfl,rfl,rfl,fun x=>by cases x⟩
  rw[if_neg h,if_neg h,if_neg (by omega)]
  by_cases hm:s.most < mostN v L P r L.length
  ·rw[if_pos hm,if_pos hm]
   have hs':HInv fuel ⟨s.plan,s.most,s.nodes+1,s.tree++[true]⟩:=⟨by show 0≤s.nodes+1;omega,by show((s.tree++[true]).length:Int)≤s.nodes+1;rw[List.length_append,List.length_singleton];omega⟩
   obtain⟨m,q,h1,h2,h3,h4,h5⟩:=mach_row hv hk hn9 hf hh1 hh2 hh3 (A:=A) (mach_main hv hk hn9 hf hh1 hh2 hh3 d) hr hst hsl (rowL v L P r).length 0 _ (by omega) hs'
   rw[List.drop_zero] at h3 h4
   refine⟨m,q,?_,h2,h3,h4,h5⟩
   have:(rowL v L P r).length * (1+stepsB d)≤10 * (1+stepsB d):=Nat.mul_le_mul_right _ (by omega)
   rw[stepsB]
   omega
  ·rw[if_neg hm,if_neg hm]
   exact⟨0,(true,upR r,⟨s.plan,s.most,s.nodes+1,s.tree++[false]⟩,st),by omega,fun n=>rfl,rfl,rfl,fun _=>⟨rfl,rfl⟩⟩
end
end Go.Px

set_option linter.unusedVariables false
set_option linter.unusedSimpArgs false
namespace Go.Px
open Go Go.Sh
section
variable {k:Nat} {v:Venue} {L:List Party} {P:List Pin} {r:List Int} {fuel:Int}
def leastL (L:List Party) (P:List Pin) (j:Nat):List Int:=(List.range L.length).map (fun i:Nat=>(mget (pmN P j) (i:Int)).getD (-1))
theorem leastL_len {j:Nat} : (leastL L P j).length=L.length:=by unfold leastL;simp
theorem leastL_at {j i:Nat} (h:i < L.length):aI (leastL L P j) (i:Int)=(mget (pmN P j) (i:Int)).getD (-1):=map_range_at h
theorem least_l1 (hP:PinOK v L P) (hl:P.length≤1000):∀(d n j:Nat),j+d=P.length→d < n→search_Least_l1 k P n (leastL L P j) (j:Int)=some (leastL L P P.length)
 | d,0,j,_,h=>absurd h (by omega)
 | 0,n+1,j,hj,_=>by rw[search_Least_l1,condN (by omega),show j=P.length by omega]
 | d+1,n+1,j,hj,hd=>by
  have hG:=hP j (by omega)
  have h1:=hG.lo
  have h2:=hG.hi
  have hl1:(leastL L P j).length=L.length:=leastL_len
  rw[search_Least_l1,condD (by omega),bindS (idx_aI (by omega) (by omega)),bindS (idx_aI (l:=leastL L P j) h1 (by omega)),wr_succ (by omega)]
  have e:(leastL L P j).set (aI P (j:Int)).Party.toNat (aI P (j:Int)).First=leastL L P (j+1):=by
   refine aI_ext (by rw[List.length_set,leastL_len,leastL_len]) fun i hi=>?_
   rw[List.length_set,leastL_len] at hi
   rw[aI_set (by omega),leastL_at hi,leastL_at hi,pmN,mget_mset]
   by_cases h:(i:Int)=(aI P (j:Int)).Party
   ·rw[if_pos (by omega),if_pos h];rfl
   ·rw[if_neg (by omega),if_neg h]
  rw[e]
  exact least_l1 hP hl d n (j+1) (by omega) (by omega)
theorem search_Least_eq (hv:Small k v) (hk:1000 < k) (hI:InOK v L P) (hP:P.length≤1000):search_Least k v L P=some (pinPlan L P):=by
 have h1:=hI.2.2.1
 have hb:=hv.b
 have e0:=fill0 (f:=fun n w i=>search_Least_l0 k L n w i) (len:=L.length) (fun _=>(-1:Int))
  (fun n i w hi hw=>by
   show search_Least_l0 k L (n+1) w (i:Int)=search_Least_l0 k L n _ _
   rw[search_Least_l0,condD (by rw[List.length_replicate,Int.toNat_natCast];omega),bindS (idx_aI (by omega) (by omega)),wr_succ (by omega),Int.toNat_natCast])
  (fun n w hw=>by show search_Least_l0 k L (n+1) w _=_;rw[search_Least_l0,condN (by rw[List.length_replicate,Int.toNat_natCast];omega)])
  (k:=k) (by omega) (List.replicate L.length 0) (by simp)
 have e0:search_Least_l0 k L k (List.replicate L.length 0) 0=some (leastL L P 0):=e0
 have e1:=least_l1 (k:=k) hI.2.1 hP P.length k 0 (by omega) (by omega)
 have e1:search_Least_l1 k P k (leastL L P 0) 0=some (pinPlan L P):=e1
 unfold search_Least
 rw[bindS (plan_Pins_eq hv hk (by omega) (by omega) (pins_ok hv hI.2.1)),dB_T hI,cNT,gdD (by omega),Int.toNat_natCast,bindS e0,bindS e1]
abbrev FullP (L:List Party) (r:List Int):Prop:=(∀i:Nat,i < r.length→0≤aI r (i:Int))∧L.length=r.length
theorem plan_Full_eq (hr:r.length < k) (hb:k≤4294967290):plan_Full k L r=some (dB (FullP L r)):=by
 unfold plan_Full
 have e:=scanB (F:=fun n i=>plan_Full_l0 k r n (i:Int)) (len:=r.length) (k:=k) (fun i=>0≤aI r (i:Int)) (t:=()) (r:=false)
  (fun n i hi _ hg=>by
   rw[plan_Full_l0,condD (by omega),bindS (idx_aI (by omega) (by omega)),condN (by omega),wr_succ (by omega)])
  (fun n i hi _ hg=>by
   rw[plan_Full_l0,condD (by omega),bindS (idx_aI (by omega) (by omega)),condD (by omega)])
  (fun n _=>by
   rw[plan_Full_l0,condN (by omega)]) hr
 have e:plan_Full_l0 k r k 0=_:=e
 rw[bindS e]
 rcases Classical.em (∀i:Nat,i < r.length→0≤aI r (i:Int)) with h | h
 ·rw[dB_T h,if_pos rfl,elim_go]
  by_cases hl:L.length=r.length
  ·rw[decide_eq_true (by omega),dB_T ⟨h,hl⟩]
  ·rw[decide_eq_false (by omega),dB_F (fun x=>hl x.2)]
 ·rw[dB_F h,if_neg (by simp),elim_rt,dB_F (fun x=>h x.1)]
noncomputable def s0 (L:List Party) (P:List Pin):HS:=⟨pinPlan L P,seatN L (pinPlan L P) L.length,0,[]⟩
noncomputable def huntR (v:Venue) (L:List Party) (P:List Pin) (fuel:Int):HS×Bool:=hunt v L P fuel L.length [] (s0 L P)
theorem s0_inv:HInv fuel (s0 L P):=⟨Int.le_refl 0,by show((([]:List Bool).length:Int))≤0;simp⟩
theorem stepsB_4 {d:Nat} (h:d≤4):stepsB d≤12221:=by
 have:d=0∨d=1∨d=2∨d=3∨d=4:=by omega
 rcases this with rfl | rfl | rfl | rfl | rfl <;> decide
theorem hunt_run_eq (hc:BCtx v L P) (hf:fuel≤1073741824):∃lv p st,search_hunt_run 20000 (SearchHunt.mk (mkP v L P []) L (SearchResult.mk 0 (pinPlan L P) 0 []) (seatN L (pinPlan L P) L.length) fuel []) =
  some ((huntR v L P fuel).2,lv,p,SearchResult.mk 0 (huntR v L P fuel).1.plan (huntR v L P fuel).1.nodes (huntR v L P fuel).1.tree,(huntR v L P fuel).1.most,st):=by
 have hv:=hc.small
 have h4:=hc.pr.l4
 have hst:=StateP_nil (hc.pr.inn hc.ok)
 have eL:=look_eq (k:=20000) (r:=[]) hv (by omega) hst hf (s:=s0 L P) s0_inv (st:=[]) (by simp) 0
 have eL:search_hunt_look 20000 (SearchHunt.mk (mkP v L P []) L (SearchResult.mk 0 (pinPlan L P) 0 []) (seatN L (pinPlan L P) L.length) fuel [])=_:=eL
 obtain⟨m,q,h1,h2,h3,h5,h6⟩:=mach_main hv (by omega) hc.pr.n1 hf (h0:=SearchHunt.mk (mkP v L P []) L (SearchResult.mk 0 (pinPlan L P) 0 []) (seatN L (pinPlan L P) L.length) fuel []) rfl rfl rfl (A:=0) L.length [] (s0 L P) [] (by simp) hst s0_inv (by simp)
 have hb:=stepsB_4 h4
 have e:=h2 (20000-m)
 rw[show 20000-m+m=20000 by omega] at e
 obtain⟨n,hn⟩:∃n,20000-m=n+1:=⟨20000-m-1,by omega⟩
 rw[hn] at e
 have hend:mach 20000 v L P (SearchHunt.mk (mkP v L P []) L (SearchResult.mk 0 (pinPlan L P) 0 []) (seatN L (pinPlan L P) L.length) fuel []) 0 (n+1) q=some (lvsL v L P q.2.1,q.2.1,0,q.2.2.1.plan,q.2.2.1.nodes,q.2.2.1.tree,q.2.2.1.most,q.2.2.2,q.1):=by
  unfold mach
  rw[search_hunt_run_l0]
  cases hq:q.1
  ·rw[cond_false,bindS rfl,cond_false]
  ·rw[(h6 hq).2,cond_true,bindS rfl,decide_eq_false (by simp),cond_false]
 rw[hend] at e
 unfold mach at e
 unfold search_hunt_run
 rw[bindS eL]
 dsimp only
 rw[bindS e]
 dsimp only
 rw[h3,h5]
 exact⟨_,_,_,rfl⟩
noncomputable def ansI (v:Venue) (L:List Party) (P:List Pin) (fuel:Int):Int:=if (huntR v L P fuel).2=true then (if dB (FullP L (huntR v L P fuel).1.plan)=true then 1 else 2) else 3
noncomputable def resR (v:Venue) (L:List Party) (P:List Pin) (fuel:Int):SearchResult:=SearchResult.mk (ansI v L P fuel) (huntR v L P fuel).1.plan (huntR v L P fuel).1.nodes (huntR v L P fuel).1.tree
/- what holds of the walk -/
structure Less (f1:Int) (a b:HS×Bool) (s:HS):Prop where
 same:a.2=true→b=a
 nodes:a.2=false→a.1.nodes=max f1 s.nodes
 most:a.1.most≤b.1.most
 more:a.2=false→b.2=true→f1 < b.1.nodes
 le:a.1.nodes≤b.1.nodes
end
end Go.Px

set_option linter.unusedVariables false
set_option linter.unusedSimpArgs false
namespace Go.Px
open Go Go.Sh
section
variable {k:Nat} {v:Venue} {L:List Party} {P:List Pin} {r:List Int} {fuel:Int}
theorem rowRun_ind {I:HS→Prop} {f:Int→HS→HS×Bool} : ∀(l:List Int),(∀x,x ∈ l→∀s,I s→I (f x s).1)→∀s,I s→I (rowRun f l s).1
 | [],_,s,h=>h
 | x::xs,hf,s,h=>by
  rw[rowRun]
  split
  ·exact rowRun_ind xs (fun y hy=>hf y (by simp [hy])) _ (hf x (by simp) s h)
  ·exact hf x (by simp) s h
def PlanI (v:Venue) (L:List Party) (P:List Pin) (s:HS):Prop:=PlanP v L P s.plan∧seatN L s.plan L.length=s.most
theorem leaf_plan (hst:StateP v L P r) (hr:r.length=L.length) {s:HS} (h:PlanI v L P s):PlanI v L P (leafS v L P r s):=by
 unfold leafS
 split
 ·exact⟨⟨hst.inn,hr,hst.at_⟩,(most_full hr _ (Nat.le_refl _)).symm⟩
 ·exact h
theorem hunt_plan (hv:Small k v):∀(d:Nat) (r:List Int) (s:HS),r.length+d=L.length→StateP v L P r→PlanI v L P s→PlanI v L P (hunt v L P fuel d r s).1
 | 0,r,s,hr,hst,h=>by
  rw[hunt]
  split
  ·exact h
  ·exact leaf_plan hst hr h
 | d+1,r,s,hr,hst,h=>by
  rw[hunt]
  split
  ·exact h
  ·split
   ·exact rowRun_ind (I:=PlanI v L P) _ (fun x hx s hs=>hunt_plan hv d (r++[x]) s (by simp;omega) ((rowL_next hv hst (by omega) hx).state hv) hs) _ h
   ·exact h
theorem search_Best_eq (hc:BCtx v L P) (hf0:0≤fuel) (hf:fuel≤1073741824):search_Best 20000 v L P fuel=some (resR v L P fuel,0):=by
 have hv:=hc.small
 have h4:=hc.pr.l4
 have hP4:=hc.l4
 have hI:=hc.pr.inn hc.ok
 have hst:=StateP_nil hI
 have hpp:=pinPlan_P hv hI
 have eN:=prop_New_eq (k:=20000) (L:=L) (P:=P) hv (by omega) (by omega) (by omega) (pins_ok hv hc.ok)
 rw[dB_T hI,if_pos rfl] at eN
 obtain⟨lv,p,st,eR⟩:=hunt_run_eq hc hf
 have hpl:=hunt_plan (fuel:=fuel) hv L.length [] (s0 L P) (by simp) hst ⟨hpp,rfl⟩
 have hpl:PlanI v L P (huntR v L P fuel).1:=hpl
 have hlen:=hpl.1.len
 unfold search_Best
 rw[bindS eN]
 dsimp only
 rw[optc_some,condNT rfl,condN (by omega),bindS rfl,condN (by omega),bindS (search_Least_eq hv (by omega) hI (by omega)),bindS (plan_Seated_eq hc.pr.all (by omega) (by omega) hpp.len),bindS eR]
 dsimp only
 unfold resR ansI
 cases (huntR v L P fuel).2
 ·rw[cNF,if_neg (by simp)]
 ·rw[cNT,bindS (plan_Full_eq (by omega) (by omega)),if_pos rfl]
  cases dB (FullP L (huntR v L P fuel).1.plan)
  ·rw[cond_false,if_neg (by simp)]
  ·rw[cond_true,if_pos rfl]
structure SCtx (v:Venue) (L:List Party) (P:List Pin) (N:Int):Prop where
 c:BCtx v L P
 ok:(huntR v L P 1073741824).2=true
 n:(huntR v L P 1073741824).1.nodes=N
 n1:1≤N
 n2:N≤11111
theorem ans_no (h:(huntR v L P fuel).2=false):ansI v L P fuel=3:=by
 unfold ansI
 rw[if_neg (by rw[h];simp)]
theorem huntR_plan (hc:BCtx v L P):PlanI v L P (huntR v L P fuel).1 :=
 hunt_plan (fuel:=fuel) hc.small L.length [] (s0 L P) (by simp) (StateP_nil (hc.pr.inn hc.ok)) ⟨pinPlan_P hc.small (hc.pr.inn hc.ok),rfl⟩
end
end Go.Px

set_option linter.unusedVariables false
set_option linter.unusedSimpArgs false
namespace Go.Px
open Go Go.Sh
section
variable {k:Nat} {v:Venue} {L:List Party} {P:List Pin} {r:List Int} {fuel:Int}
def lexB (a b:List Int):Prop:=∃w:Nat,w < a.length∧(∀j:Nat,j < w→aI a (j:Int)=aI b (j:Int))∧¬aI a (w:Int) = -1∧(aI b (w:Int) = -1∨aI a (w:Int) < aI b (w:Int))
def Done (L:List Party) (s:HS) (q:List Int):Prop:=seatN L q L.length < s.most∨(seatN L q L.length=s.most∧(q=s.plan∨lexB s.plan q))
def PreQ (L:List Party) (s:HS) (q:List Int):Prop:=seatN L q L.length=s.most→q=s.plan∨lexB s.plan q
def Prov (v:Venue) (L:List Party) (P:List Pin) (r:List Int) (s s':HS):Prop:=(s'.plan=s.plan∧s'.most=s.most)∨(PlanP v L P s'.plan∧s'.plan.take r.length=r∧s.most < s'.most)
def befR (x y:Int):Prop:=¬x = -1∧(y = -1∨x < y)
theorem rowL_sorted (hv:Small k v):(rowL v L P r).Pairwise befR:=by
 unfold rowL
 rw[List.pairwise_append]
 refine⟨?_,?_,?_⟩
 ·have h:(openL v L P r (r.length:Int)).Pairwise (· < ·):=by unfold openL;exact(allV_sorted _).filter _
  refine List.Pairwise.imp_of_mem ?_ h
  intro a b ha _ hab
  have:=openL_ge hv ha
  exact⟨by omega,.inr hab⟩
 ·split
  ·exact List.Pairwise.nil
  ·exact List.pairwise_singleton _ _
 ·intro a ha b hb
  have:=openL_ge hv ha
  split at hb
  ·cases hb
  ·rw[List.mem_singleton] at hb
   exact⟨by omega,.inl hb⟩
theorem plan_rowL (hv:Small k v) {q:List Int} (hq:PlanP v L P q) (hr:r.length < L.length) (hx:q.take r.length=r):aI q (r.length:Int) ∈ rowL v L P r:=by
 have h:=hq.next hv hr
 rw[hx] at h
 unfold rowL
 rcases h.2.2 with⟨h1,h2⟩ | h1
 ·rw[h2,h1]
  exact List.mem_append_right _ (by simp)
 ·exact List.mem_append_left _ h1
theorem take_next {q:List Int} (hq:q.length=L.length) (hr:r.length < L.length) (hx:q.take r.length=r):q.take (r.length+1)=r++[aI q (r.length:Int)]:=by
 rw[take_snoc (by omega),hx]
theorem row_best (hv:Small k v) {f:Int→HS→HS×Bool} (hr:r.length < L.length)
  (hf:∀x s,x ∈ rowL v L P r→(∀q,PlanP v L P q→q.take (r++[x]).length=r++[x]→PreQ L s q)→(f x s).2=true→Prov v L P (r++[x]) s (f x s).1∧∀q,PlanP v L P q→q.take (r++[x]).length=r++[x]→Done L (f x s).1 q) :
  ∀(xs ys:List Int) (s:HS),ys++xs=rowL v L P r→(∀q,PlanP v L P q→q.take r.length=r→aI q (r.length:Int) ∈ ys→Done L s q)→(∀q,PlanP v L P q→q.take r.length=r→aI q (r.length:Int) ∈ xs→PreQ L s q)→(rowRun f xs s).2=true →
  Prov v L P r s (rowRun f xs s).1∧∀q,PlanP v L P q→q.take r.length=r→Done L (rowRun f xs s).1 q
 | [],ys,s,hys,hd,_,_=>by
  refine⟨.inl ⟨rfl,rfl⟩,fun q hq hx=>?_⟩
  refine hd q hq hx ?_
  rw[List.append_nil] at hys
  rw[hys]
  exact plan_rowL hv hq hr hx
 | x::xs,ys,s,hys,hd,hp,ho=>by
  have hl:(r++[x]).length=r.length+1:=by simp
  have hxm:x ∈ rowL v L P r:=by rw[← hys];simp
  have hsort:=rowL_sorted (L:=L) (P:=P) (r:=r) hv
  rw[← hys,List.pairwise_append] at hsort
  have hxs:=(List.pairwise_cons.1 hsort.2.1).1
  have split:∀q,PlanP v L P q→q.take (r++[x]).length=r++[x]→q.take r.length=r∧aI q (r.length:Int)=x:=fun q hq hx=>by
   have hql:=hq.len
   rw[hl] at hx
   have h1:q.take r.length=r:=by
    have:=congrArg (List.take r.length) hx
    rw[List.take_take,Nat.min_eq_left (by omega),List.take_left'] at this
    ·exact this
    ·rfl
   refine⟨h1,?_⟩
   have h2:aI (q.take (r.length+1)) (r.length:Int)=aI q (r.length:Int):=aI_take (by omega) (by omega)
   rw[hx,aI_last rfl] at h2
   exact h2.symm
  have join:∀q,PlanP v L P q→q.take r.length=r→aI q (r.length:Int)=x→q.take (r++[x]).length=r++[x]:=fun q hq hx he=>by
   rw[hl,take_next hq.len hr hx,he]
  rw[rowRun] at ho ⊢
  by_cases h1:(f x s).2=true
  ·rw[if_pos h1] at ho ⊢
   obtain⟨hpr,hdn⟩:=hf x s hxm (fun q hq hx=>by
    obtain⟨a,b⟩:=split q hq hx
    exact hp q hq a (by rw[b];simp)) h1
   have hd2:∀q,PlanP v L P q→q.take r.length=r→aI q (r.length:Int) ∈ ys++[x]→Done L (f x s).1 q:=fun q hq hx hm=>by
    rcases List.mem_append.1 hm with hm | hm
    ·have hold:=hd q hq hx hm
     rcases hpr with⟨e1,e2⟩ | ⟨_,_,hlt⟩
     ·unfold Done at hold ⊢
      rw[e1,e2]
      exact hold
     ·left
      rcases hold with h | h
      ·omega
      ·omega
    ·exact hdn q hq (join q hq hx (List.mem_singleton.1 hm))
   have hp2:∀q,PlanP v L P q→q.take r.length=r→aI q (r.length:Int) ∈ xs→PreQ L (f x s).1 q:=fun q hq hx hm he=>by
    rcases hpr with⟨e1,e2⟩ | ⟨hpl,htk,hlt⟩
    ·rw[e1]
     rw[e2] at he
     exact hp q hq hx (by simp [hm]) he
    ·right
     obtain⟨a,b⟩:=split _ hpl htk
     have hbef:=hxs _ hm
     refine⟨r.length,by rw[hpl.len];exact hr,fun j hj=>?_,by rw[b];exact hbef.1,by rw[b];exact hbef.2⟩
     have e1:aI ((f x s).1.plan.take r.length) (j:Int)=aI (f x s).1.plan (j:Int):=aI_take (by omega) (by omega)
     have e2:aI (q.take r.length) (j:Int)=aI q (j:Int):=aI_take (by omega) (by omega)
     rw[← e1,← e2,a,hx]
   obtain⟨hpr2,hdn2⟩:=row_best hv hr hf xs (ys++[x]) (f x s).1 (by rw[← hys];simp) hd2 hp2 ho
   refine⟨?_,hdn2⟩
   rcases hpr2 with⟨e1,e2⟩ | ⟨a,b,c⟩
   ·rcases hpr with⟨e3,e4⟩ | ⟨a,b,c⟩
    ·exact .inl ⟨by rw[e1,e3],by rw[e2,e4]⟩
    ·right
     rw[e1,e2]
     exact⟨a,(split _ a b).1,c⟩
   ·right
    refine⟨a,b,?_⟩
    rcases hpr with⟨e3,e4⟩ | ⟨_,_,c2⟩
    ·omega
    ·omega
  ·rw[if_neg h1] at ho
   exact absurd ho h1
theorem hunt_best (hv:Small k v):∀(d:Nat) (r:List Int) (s:HS),r.length+d=L.length→StateP v L P r→(∀q,PlanP v L P q→q.take r.length=r→PreQ L s q)→(hunt v L P fuel d r s).2=true →
  Prov v L P r s (hunt v L P fuel d r s).1∧∀q,PlanP v L P q→q.take r.length=r→Done L (hunt v L P fuel d r s).1 q
 | 0,r,s,hr,hst,hp,ho=>by
  have hrl:r.length=L.length:=by omega
  have hfull:=most_full (v:=v) (P:=P) hrl L.length (Nat.le_refl _)
  have hqr:∀q,PlanP v L P q→q.take r.length=r→q=r:=fun q hq hx=>by
   rw[List.take_of_length_le (by rw[hq.len];omega)] at hx
   exact hx
  rw[hunt] at ho ⊢
  by_cases h1:fuel≤s.nodes
  ·rw[if_pos h1] at ho;cases ho
  rw[if_neg h1]
  unfold leafS
  by_cases h2:s.most < mostN v L P r L.length
  ·rw[if_pos h2]
   refine⟨.inr ⟨⟨hst.inn,hrl,hst.at_⟩,List.take_of_length_le (Nat.le_refl _),h2⟩,fun q hq hx=>?_⟩
   rw[hqr q hq hx]
   exact .inr ⟨hfull.symm,.inl rfl⟩
  ·rw[if_neg h2]
   refine⟨.inl ⟨rfl,rfl⟩,fun q hq hx=>?_⟩
   have hpq:=hp q hq hx
   have e:=hqr q hq hx
   have hle:seatN L q L.length≤s.most:=by rw[e];omega
   rcases Int.lt_or_eq_of_le hle with h | h
   ·exact .inl h
   ·exact .inr ⟨h,hpq h⟩
 | d+1,r,s,hr,hst,hp,ho=>by
  rw[hunt] at ho ⊢
  by_cases h1:fuel≤s.nodes
  ·rw[if_pos h1] at ho;cases ho
  rw[if_neg h1] at ho ⊢
  by_cases h2:s.most < mostN v L P r L.length
  ·rw[if_pos h2] at ho ⊢
   exact row_best hv (f:=fun x s=>hunt v L P fuel d (r++[x]) s) (by omega) (fun x s hx hpre hok=>hunt_best hv d (r++[x]) s (by simp;omega) ((rowL_next hv hst (by omega) hx).state hv) hpre hok) (rowL v L P r) [] ⟨s.plan,s.most,s.nodes+1,s.tree++[true]⟩ rfl (fun q _ _ h=>by cases h) (fun q hq hx _=>hp q hq hx) ho
  ·rw[if_neg h2]
   refine⟨.inl ⟨rfl,rfl⟩,fun q hq hx=>?_⟩
   have hge:=most_ge hv hq (n:=r.length) (by omega) L.length (Nat.le_refl _)
   rw[hx] at hge
   have hle:seatN L q L.length≤s.most:=by omega
   rcases Int.lt_or_eq_of_le hle with h | h
   ·exact .inl h
   ·exact .inr ⟨h,hp q hq hx h⟩
theorem least_min (hv:Small k v) {q:List Int} (hq:PlanP v L P q):∀n:Nat,n≤L.length→seatN L (pinPlan L P) n≤seatN L q n∧(seatN L (pinPlan L P) n=seatN L q n→∀j:Nat,j < n→aI q (j:Int)=aI (pinPlan L P) (j:Int))
 | 0,_=>⟨Int.le_refl _,fun _ j hj=>absurd hj (by omega)⟩
 | n+1,hn=>by
  obtain⟨h1,h2⟩:=least_min hv hq n (by omega)
  have hsz:=hq.inn.2.2.2 n (by omega)
  have hG:=hq.at_ n (by rw[hq.len];omega)
  have hpa:=pinPlan_at (P:=P) (i:=n) (L:=L) (by omega)
  have hge:aI q (n:Int) = -1∨0≤aI q (n:Int):=by
   by_cases h:aI q (n:Int) = -1
   ·exact .inl h
   ·exact .inr (plB_in hv (hG.pl h)).2.2.1
  rw[seatN,seatN]
  cases hp:pinAt P (n:Int) with
  | some f =>
   have e:=hG.pin f hp
   rw[hp] at hpa
   have e2:aI (pinPlan L P) (n:Int)=aI q (n:Int):=by rw[hpa,e];rfl
   rw[e2]
   refine⟨by omega,fun he j hj=>?_⟩
   rcases Nat.lt_or_ge j n with x | x
   ·exact h2 (by omega) j x
   ·rw[show j=n by omega,e2]
  | none =>
   rw[hp] at hpa
   have e2:aI (pinPlan L P) (n:Int) = -1:=hpa
   rw[e2,if_neg (by omega)]
   by_cases h0:0≤aI q (n:Int)
   ·rw[if_pos h0]
    exact⟨by omega,fun he=>by omega⟩
   ·rw[if_neg h0]
    refine⟨by omega,fun he j hj=>?_⟩
    rcases Nat.lt_or_ge j n with x | x
    ·exact h2 (by omega) j x
    ·rw[show j=n by omega,e2];omega
theorem huntR_best (hc:BCtx v L P) (ho:(huntR v L P fuel).2=true) {q:List Int} (hq:PlanP v L P q):Done L (huntR v L P fuel).1 q:=by
 have hv:=hc.small
 have hpp:=pinPlan_P hv (hc.pr.inn hc.ok)
 refine(hunt_best hv L.length [] (s0 L P) (by simp) (StateP_nil (hc.pr.inn hc.ok)) (fun q hq _ he => .inl ?_) ho).2 q hq rfl
 have h:=(least_min hv hq L.length (Nat.le_refl _)).2 he.symm
 exact aI_ext (by rw[hq.len];exact hpp.len.symm) (fun i hi=>h i (by rw[← hq.len];exact hi))
end
end Go.Px

set_option linter.unusedVariables false
set_option linter.unusedSimpArgs false
namespace Go.Px
open Go Go.Sh
section
variable {k:Nat} {v:Venue} {L:List Party} {P:List Pin} {r:List Int} {fuel:Int}
/- enough -/
end
end Go.Px

set_option linter.unusedVariables false
set_option linter.unusedSimpArgs false
namespace Go.Px
open Go Go.Sh
theorem law18_told_eq2:law18_told 20000=some true:=by decide +kernel
section
variable {k:Nat} {v:Venue} {L:List Party} {P:List Pin} {r:List Int} {fuel:Int}
noncomputable def keepOld (v:Venue) (L:List Party) (P:List Pin) (r:List Int) (fuel:Int):Bool:=dB (ansI v L P fuel=3∧(huntR v L P fuel).1.most≤seatN L r L.length)
theorem resolve_Again_eq (hc:BCtx v L P) (hr:PlanP v L P r) (hf0:0≤fuel) (hf:fuel≤1073741824):resolve_Again 20000 v L P r fuel=some (if keepOld v L P r fuel=true then (SearchResult.mk (ansI v L P fuel) r (huntR v L P fuel).1.nodes (huntR v L P fuel).1.tree,0) else (resR v L P fuel,0)):=by
 have hv:=hc.small
 have h4:=hc.pr.l4
 have hP4:=hc.l4
 have hrl:=hr.len
 have hp:=huntR_plan (fuel:=fuel) hc
 unfold resolve_Again keepOld
 rw[bindS (plan_May_eq hv (by omega) (by omega) (by omega) (pins_ok hv hc.ok) (hr.ok hv)),dB_T hr,cNT,bindS (search_Best_eq hc hf0 hf)]
 dsimp only
 have e1:plan_Seated 20000 L (resR v L P fuel).Plan=some (huntR v L P fuel).1.most:=by
  rw[plan_Seated_eq hc.pr.all (by omega) (by omega) (show(resR v L P fuel).Plan.length=L.length from hp.1.len)]
  exact congrArg some hp.2
 have e2:slices_Clone_Plan_int 20000 r=some r:=by
  unfold slices_Clone_Plan_int
  rw[gdD (by simp only[List.length_nil];omega),List.nil_append]
 have ha:(resR v L P fuel).Answer=ansI v L P fuel:=rfl
 rw[condD rfl,ha,bindS e1,bindS (plan_Seated_eq hc.pr.all (by omega) (by omega) hrl),bindS e2]
 by_cases h3:ansI v L P fuel=3
 ·rw[condD h3,bindS rfl]
  by_cases hm:(huntR v L P fuel).1.most≤seatN L r L.length
  ·rw[condD hm,dB_T ⟨h3,hm⟩,if_pos rfl]
   rfl
  ·rw[condN hm,dB_F (fun x=>hm x.2),if_neg (by simp)]
 ·rw[condN h3,bindS rfl,cond_false,dB_F (fun x=>h3 x.1),if_neg (by simp)]
theorem done_le {s:HS} {q:List Int} (h:Done L s q):seatN L q L.length≤s.most:=by
 rcases h with h | h
 ·omega
 ·omega
theorem ans3 (h:¬ansI v L P fuel=3):(huntR v L P fuel).2=true:=by
 cases hq:(huntR v L P fuel).2
 ·exact absurd (ans_no hq) h
 ·rfl
theorem ResolveFuel_true (a0:List Int) (h0:okLI a0) (a1:List Int) (h1:okLI a1) (a2:Int) (h2:okI a2) (a3:Int) (h3:okI a3) (a4:Int) (h4:okI a4):∃k,law18_ResolveFuel k a0 a1 a2 a3 a4=some true:=by
 refine⟨20000,?_⟩
 obtain⟨v,L,e,hp⟩:=law12_Small_eq (k:=20000) a0 a1 (by omega)
 have hv:=hp.small (k:=20000) (by omega) (by omega)
 obtain⟨P,e3,hPl,hP⟩:=law12_Pins_eq hp (k:=20000) (by omega) (by omega) a2
 obtain⟨R,e5,hR,hRl⟩:=ref15_Plans_eq hp (k:=20000) (by omega) (by omega) (P:=P) hPl
 have hc:BCtx v L P:=⟨hp,hPl,hP⟩
 have h4:=hp.l4
 have hR0:0 < R.length:=by
  obtain⟨m,hm,_⟩:=mem_aI ((hR _).2 (pinPlan_P hv (hp.inn hP)))
  omega
 unfold law18_ResolveFuel
 rw[bindS e]
 dsimp only
 obtain⟨u0,u1⟩:=um a3 (R.length:Int) (by omega)
 have hw:IntKind.u64.wrap (R.length:Int)=(R.length:Int):=wu_id (by omega) (by omega)
 rw[bindS e3,bindS e5,condN (by omega),gdD (by rw[hw];omega),hw,bindS (idx_aI u0 u1)]
 have hr:=(hR _).1 (aI_mem (l:=R) u0 u1)
 generalize aI R ((IntKind.u64.wrap a3).tmod (R.length:Int))=r at hr
 have hrl:=hr.len
 obtain⟨x0,x1⟩:=um a4 61 (by omega)
 rw[wr_id (x:=(IntKind.u64.wrap a4).tmod 61) (by omega) (by omega)]
 generalize (IntKind.u64.wrap a4).tmod 61=f at x0 x1
 have pf:=huntR_plan (fuel:=f) hc
 rw[bindS (resolve_Again_eq hc hr x0 (by omega)),bindS (ref6_Seated_eq hp.all (by omega) (by omega) hrl)]
 rcases Classical.em (ansI v L P f=3∧(huntR v L P f).1.most≤seatN L r L.length) with hk | hk
 ·have hkb:keepOld v L P r f=true:=dB_T hk
  rw[hkb,if_pos rfl]
  dsimp only
  rw[bindS (ref6_Seated_eq hp.all (by omega) (by omega) hrl),bindS law18_told_eq2,cond_true,condD rfl,bindS (ref6_MayPlan_eq hv (by omega) (by omega) (by omega)),dB_T hr,cond_true,condD (Int.le_refl _),hk.1,condNT rfl,condN (by omega),bindS (sameInts_refl _ _ (by omega) (by omega))]
 ·have hkb:keepOld v L P r f=false:=dB_F hk
  rw[hkb,if_neg (by simp)]
  dsimp only
  have eS:ref6_Seated 20000 L (resR v L P f).Plan=some (huntR v L P f).1.most:=by
   rw[ref6_Seated_eq hp.all (by omega) (by omega) (show(resR v L P f).Plan.length=L.length from pf.1.len)]
   exact congrArg some pf.2
  have eM:ref6_MayPlan 20000 v L (resR v L P f).Plan P=some true:=by
   rw[ref6_MayPlan_eq hv (by omega) (by omega) (by omega),dB_T (show PlanP v L P (resR v L P f).Plan from pf.1)]
  have ha:(resR v L P f).Answer=ansI v L P f:=rfl
  rw[bindS eS,bindS law18_told_eq2,cond_true,condD rfl,bindS eM,cond_true,ha]
  by_cases h3:ansI v L P f=3
  ·have hlt:seatN L r L.length < (huntR v L P f).1.most:=by
    rcases Int.lt_or_le (seatN L r L.length) (huntR v L P f).1.most with h | h
    ·exact h
    ·exact absurd ⟨h3,h⟩ hk
   rw[condD (by omega),condNT h3,condD hlt]
  ·have:=done_le (huntR_best hc (ans3 h3) hr)
   rw[condD this,condNF h3]
end
end Go.Px
