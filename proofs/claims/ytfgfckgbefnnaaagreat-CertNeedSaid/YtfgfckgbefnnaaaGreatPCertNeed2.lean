/- The plain law, in parts: CertLaws, Ref15, RefBest, CertComplete, CertNeed. -/
import Derived.Test.YtfgfckgbefnnaaaGreatPCertNeed1
set_option linter.unusedVariables false
set_option linter.unusedSimpArgs false
namespace Go.Px
open Go Go.Sh
section
variable {k:Nat} {v:Venue} {L:List Party} {P:List Pin} {r:List Int} {fuel m:Int} {t:List Bool}
theorem bN_4 {d:Nat} (h:d≤4):bN d≤1111:=by
 have:d=0∨d=1∨d=2∨d=3∨d=4:=by omega
 rcases this with rfl | rfl | rfl | rfl | rfl <;> decide
noncomputable def chkR (v:Venue) (L:List Party) (P:List Pin) (r:List Int) (t:List Bool):Nat×Bool:=chk v L P (seatN L r L.length) t L.length [] 0
noncomputable def chkB (v:Venue) (L:List Party) (P:List Pin) (r:List Int) (t:List Bool):Bool:=dB (chkR v L P r t=(t.length,true))
noncomputable def nedR (v:Venue) (L:List Party) (P:List Pin) (r:List Int):List Bool×Bool:=ned v L P (seatN L r L.length) L.length [] []
noncomputable def nedL (v:Venue) (L:List Party) (P:List Pin) (r:List Int):List Bool:=if dB (PlanP v L P r)=true then (if (nedR v L P r).2=true then (nedR v L P r).1 else []) else []
theorem root_lf (hm:0≤m) (h:([]:List Int).length=L.length):lfC v L P m []=true:=by
 unfold lfC
 rw[← h]
 exact dB_T hm
theorem all_look_eq (hc:BCtx v L P) (hm:0≤m) (htl:t.length≤100000):∃lv p st,cert_walk_all_look 20000 (CertWalk.mk (mkP v L P []) (L.length:Int) m t 0 [])=some ((chk v L P m t L.length [] 0).2,lv,p,((chk v L P m t L.length [] 0).1:Int),st):=by
 have hv:=hc.small
 have h4:=hc.pr.l4
 have hst:=StateP_nil (hc.pr.inn hc.ok)
 have hM:=look_mach (k:=20000) (L:=L) (P:=P) (m:=m) (t:=t) hv (by omega) htl (a0:=CertWalk.mk (mkP v L P []) (L.length:Int) m t 0 []) rfl rfl rfl rfl
 have hB:=bN_4 h4
 have hS:=stepsB_4 h4
 obtain⟨r2,st2,eL,hL⟩:=look2_eq (k:=20000) (r:=[]) (m:=m) (t:=t) (a:=0) hv (by omega) hst (by omega) (st:=[]) (by simp) htl (by omega)
 have e0:szC t 0=0:=if_pos (by omega)
 obtain⟨c,r3,st3,b1,b2,b3⟩:=cmach_main hM szC_nd hv hc.pr.n1 L.length [] 0 [] r2 st2 (by simp) hst (by rw[e0];omega) (by simp) (by
  unfold AfterP lok
  by_cases hl:([]:List Int).length=L.length
  ·rw[if_pos hl] at hL ⊢
   intro _
   rw[if_neg (by simp)]
   exact hL
  ·rw[if_neg hl] at hL ⊢
   exact hL)
 rw[wlk_chk] at b2 b3
 have eL:cert_walk_look 20000 (CertWalk.mk (mkP v L P []) (L.length:Int) m t 0 [])=_:=eL
 have e:=b2 (20000-c)
 rw[show 20000-c+c=20000 by omega] at e
 obtain⟨n,hn⟩:∃n,20000-c=n+1:=⟨20000-c-1,by omega⟩
 rw[hn] at e
 have hend:cert_walk_all_look_l0 20000 (CertWalk.mk (mkP v L P []) (L.length:Int) m t 0 []) (n+1) (lvsL v L P r3) r3 ((chk v L P m t L.length [] 0).1:Int) st3 (chk v L P m t L.length [] 0).2=some (lvsL v L P r3,r3,((chk v L P m t L.length [] 0).1:Int),st3,(chk v L P m t L.length [] 0).2):=by
  rw[cert_walk_all_look_l0]
  cases hq:(chk v L P m t L.length [] 0).2
  ·rw[cond_false,bindS rfl,cond_false]
  ·rw[(b3 hq).2,cond_true,bindS rfl,decide_eq_false (by simp),cond_false]
 have e2:cert_walk_all_look_l0 20000 (CertWalk.mk (mkP v L P []) (L.length:Int) m t 0 []) 20000 (lvsL v L P r2) r2 ((lok L (ndC v L P m t) (lfC v L P m) [] 0).1:Int) st2 (lok L (ndC v L P m t) (lfC v L P m) [] 0).2.1=_:=e.trans hend
 unfold cert_walk_all_look
 rw[bindS eL]
 dsimp only
 have e3:(if ([]:List Int).length=L.length then true else (ndC v L P m t [] 0).2.1)=(lok L (ndC v L P m t) (lfC v L P m) [] 0).2.1∧(if ([]:List Int).length=L.length then 0 else (ndC v L P m t [] 0).1)=(lok L (ndC v L P m t) (lfC v L P m) [] 0).1:=by
  unfold lok
  by_cases hl:([]:List Int).length=L.length
  ·rw[if_pos hl,if_pos hl,if_pos hl]
   exact⟨(root_lf hm hl).symm,rfl⟩
  ·rw[if_neg hl,if_neg hl,if_neg hl]
   exact⟨rfl,rfl⟩
 rw[e3.1,e3.2,bindS e2]
 exact⟨_,_,_,rfl⟩
theorem all_need_eq (hc:BCtx v L P) (hm:0≤m):∃lv p st,cert_walk_all_f1000_need 20000 (CertWalk.mk (mkP v L P []) (L.length:Int) m [] 0 [])=some ((ned v L P m L.length [] []).2,lv,p,(ned v L P m L.length [] []).1,st):=by
 have hv:=hc.small
 have h4:=hc.pr.l4
 have hst:=StateP_nil (hc.pr.inn hc.ok)
 have hM:=need_mach (k:=20000) (L:=L) (P:=P) (m:=m) hv (by omega) (a0:=CertWalk.mk (mkP v L P []) (L.length:Int) m [] 0 []) rfl rfl rfl
 have hB:=bN_4 h4
 have hS:=stepsB_4 h4
 obtain⟨r2,st2,eL,hL⟩:=need_eq (k:=20000) (r:=[]) (m:=m) (w:=[]) hv (by omega) hst (by simp) (st:=[]) (by simp) (ta:=0)
 have hnd:(ndN v L P m [] []).2.1=true:=by unfold ndN;split <;> rfl
 obtain⟨c,r3,st3,b1,b2,b3⟩:=cmach_main hM (fun r s=>by unfold ndN;split <;> simp) hv hc.pr.n1 L.length [] [] [] r2 st2 (by simp) hst (by show 0+bN L.length≤100000;omega) (by simp) (by
  unfold AfterP lok
  by_cases hl:([]:List Int).length=L.length
  ·rw[if_pos hl] at hL ⊢
   intro _
   rw[if_neg (by simp)]
   exact hL
  ·rw[if_neg hl] at hL ⊢
   intro _
   exact hL)
 rw[wlk_ned] at b2 b3
 have e:=b2 (20000-c)
 rw[show 20000-c+c=20000 by omega] at e
 obtain⟨n,hn⟩:∃n,20000-c=n+1:=⟨20000-c-1,by omega⟩
 rw[hn] at e
 have hend:cert_walk_all_f1000_need_l0 20000 (CertWalk.mk (mkP v L P []) (L.length:Int) m [] 0 []) (n+1) (lvsL v L P r3) r3 (ned v L P m L.length [] []).1 st3 (ned v L P m L.length [] []).2=some (lvsL v L P r3,r3,(ned v L P m L.length [] []).1,st3,(ned v L P m L.length [] []).2):=by
  rw[cert_walk_all_f1000_need_l0]
  cases hq:(ned v L P m L.length [] []).2
  ·rw[cond_false,bindS rfl,cond_false]
  ·rw[(b3 hq).2,cond_true,bindS rfl,decide_eq_false (by simp),cond_false]
 have e2:cert_walk_all_f1000_need_l0 20000 (CertWalk.mk (mkP v L P []) (L.length:Int) m [] 0 []) 20000 (lvsL v L P r2) r2 (lok L (ndN v L P m) (lfC v L P m) [] []).1 st2 (lok L (ndN v L P m) (lfC v L P m) [] []).2.1=_:=e.trans hend
 unfold cert_walk_all_f1000_need
 rw[bindS eL]
 dsimp only
 have e3:true=(lok L (ndN v L P m) (lfC v L P m) [] []).2.1∧(if ([]:List Int).length=L.length then [] else (ndN v L P m [] []).1)=(lok L (ndN v L P m) (lfC v L P m) [] []).1:=by
  unfold lok
  by_cases hl:([]:List Int).length=L.length
  ·rw[if_pos hl,if_pos hl]
   exact⟨(root_lf hm hl).symm,rfl⟩
  ·rw[if_neg hl,if_neg hl]
   exact⟨hnd.symm,rfl⟩
 rw[e3.2,e3.1,bindS e2]
 exact⟨_,_,_,rfl⟩
theorem seatN_0 (hc:BCtx v L P):0≤seatN L r L.length:=(seatN_bd hc.pr.all (r:=r) (Nat.le_refl _)).1
theorem check_eq (hc:BCtx v L P) (hr:∀i:Nat,i < r.length→okI (aI r (i:Int))) (htl:t.length≤100000):cert_Check 20000 v L P r t=some (if dB (PlanP v L P r)=true then (if chkB v L P r t=true then ((t.length:Int),0) else (0,10)) else (0,1)):=by
 have hv:=hc.small
 have h4:=hc.pr.l4
 have hP4:=hc.l4
 have hI:=hc.pr.inn hc.ok
 have eM:=plan_May_eq (L:=L) hv (by omega) (by omega) (by omega) (pins_ok hv hc.ok) hr
 unfold cert_Check cert_in
 rcases Classical.em (PlanP v L P r) with h | h
 ·have eN:=prop_New_eq (k:=20000) (L:=L) (P:=P) hv (by omega) (by omega) (by omega) (pins_ok hv hc.ok)
  rw[dB_T hI,if_pos rfl] at eN
  rw[dB_T h] at eM ⊢
  obtain⟨lv,p,st,eA⟩:=all_look_eq (t:=t) hc (seatN_0 hc (r:=r)) htl
  have hle:=chk_le (v:=v) (L:=L) (P:=P) (m:=seatN L r L.length) (t:=t) L.length [] 0 (by omega)
  rw[bindS eM,cNT,bindS eN]
  dsimp only
  rw[optc_some,bindS (plan_Seated_eq hc.pr.all (by omega) (by omega) h.len),bindS rfl]
  dsimp only
  rw[optc_some,cNT,List.take_nil,bindS eA,if_pos rfl]
  dsimp only
  unfold chkB chkR
  cases hq:(chk v L P (seatN L r L.length) t L.length [] 0).2
  ·rw[cNF,dB_F (fun h=>by rw[h] at hq;cases hq),if_neg (by simp)]
  ·rw[cNT]
   by_cases hl:(chk v L P (seatN L r L.length) t L.length [] 0).1=t.length
   ·rw[condN (by omega),dB_T (Prod.ext hl hq),if_pos rfl,hl]
   ·rw[condD (by omega),dB_F (fun h=>hl (by rw[h])),if_neg (by simp)]
 ·rw[dB_F h] at eM ⊢
  rw[bindS eM,cNF,bindS rfl,optc_none,cNF,if_neg (by simp)]
theorem holds_eq (hc:BCtx v L P) (hr:∀i:Nat,i < r.length→okI (aI r (i:Int))) (htl:t.length≤100000):cert_Holds 20000 v L P r t=some (dB (PlanP v L P r) && chkB v L P r t):=by
 unfold cert_Holds
 rw[bindS (check_eq hc hr htl)]
 cases dB (PlanP v L P r)
 ·rfl
 ·cases chkB v L P r t <;> rfl
theorem need_eq2 (hc:BCtx v L P) (hr:∀i:Nat,i < r.length→okI (aI r (i:Int))):cert_Need 20000 v L P r=some (nedL v L P r):=by
 have hv:=hc.small
 have h4:=hc.pr.l4
 have hP4:=hc.l4
 have hI:=hc.pr.inn hc.ok
 have eM:=plan_May_eq (L:=L) hv (by omega) (by omega) (by omega) (pins_ok hv hc.ok) hr
 unfold cert_Need cert_in_n4 nedL nedR
 rcases Classical.em (PlanP v L P r) with h | h
 ·have eN:=prop_New_eq (k:=20000) (L:=L) (P:=P) hv (by omega) (by omega) (by omega) (pins_ok hv hc.ok)
  rw[dB_T hI,if_pos rfl] at eN
  rw[dB_T h] at eM ⊢
  obtain⟨lv,p,st,eA⟩:=all_need_eq hc (seatN_0 hc (r:=r))
  rw[bindS eM,cNT,bindS eN]
  dsimp only
  rw[optc_some,bindS (plan_Seated_eq hc.pr.all (by omega) (by omega) h.len),bindS rfl]
  dsimp only
  rw[optc_some,cNT,List.take_nil,List.take_nil,bindS eA,if_pos rfl]
  dsimp only
  cases (ned v L P (seatN L r L.length) L.length [] []).2
  ·rw[cNF,if_neg (by simp)]
  ·rw[cNT,if_pos rfl]
 ·rw[dB_F h] at eM ⊢
  rw[bindS eM,cNF,bindS rfl,optc_none,cNF,if_neg (by simp)]
/- what they mean -/
theorem chkB_iff:chkB v L P r t=true ↔ chkR v L P r t=(t.length,true):=dB_iff
theorem chkB_sound (hc:BCtx v L P) (h:chkB v L P r t=true) {q:List Int} (hq:PlanP v L P q):seatN L q L.length≤seatN L r L.length:=by
 have h:=chkB_iff.1 h
 exact chk_sound hc.small L.length [] 0 (by simp) (by have:=congrArg Prod.snd h;exact this) q hq rfl
theorem ned_holds (h:(nedR v L P r).2=true):chkB v L P r (nedR v L P r).1=true:=by
 have e:=chk_ned (v:=v) (L:=L) (P:=P) (m:=seatN L r L.length) L.length [] [] [] h
 rw[List.append_nil] at e
 exact chkB_iff.2 e
theorem ned_iff (hc:BCtx v L P):(nedR v L P r).2=true ↔ ∀q,PlanP v L P q→seatN L q L.length≤seatN L r L.length:=by
 constructor
 ·exact fun h q hq=>chkB_sound hc (ned_holds h) hq
 ·intro h
  cases hq:(nedR v L P r).2
  ·obtain⟨q,h1,h2⟩:=ned_fail hc.small L.length [] [] (by simp) (StateP_nil (hc.pr.inn hc.ok)) hq
   have:=h q h1
   omega
  ·rfl
theorem ned_short (h:chkB v L P r t=true):(nedR v L P r).2=true∧(nedR v L P r).1.length≤t.length:=by
 have h:=chkB_iff.1 h
 have e:=ned_least (v:=v) (L:=L) (P:=P) (m:=seatN L r L.length) (t:=t) L.length [] 0 [] (by have:=congrArg Prod.snd h;exact this)
 refine⟨e.1,?_⟩
 have h2:(chk v L P (seatN L r L.length) t L.length [] 0).1=t.length:=congrArg Prod.fst h
 have h3:(nedR v L P r).1.length+0≤(chk v L P (seatN L r L.length) t L.length [] 0).1+([]:List Bool).length:=e.2
 rw[h2] at h3
 exact h3
theorem ned_len (hc:BCtx v L P):(nedR v L P r).1.length≤1111:=by
 have h:=wlk_sz (v:=v) (L:=L) (P:=P) hc.pr.n1 (nd:=ndN v L P (seatN L r L.length)) (lf:=lfC v L P (seatN L r L.length)) (sz:=List.length) (fun r s=>by unfold ndN;split <;> simp) L.length [] []
 rw[wlk_ned] at h
 have hB:=bN_4 hc.pr.l4
 have h:(nedR v L P r).1.length≤0+bN L.length:=h
 omega
theorem nedL_len (hc:BCtx v L P):(nedL v L P r).length≤1111:=by
 have:=ned_len hc (r:=r)
 unfold nedL
 split
 ·split
  ·exact this
  ·simp
 ·simp
theorem tree_holds (hc:BCtx v L P) (ho:(huntR v L P fuel).2=true):chkB v L P (huntR v L P fuel).1.plan (huntR v L P fuel).1.tree=true:=by
 have hp:=huntR_plan (fuel:=fuel) hc
 have e:=hunt_chk (v:=v) (L:=L) (P:=P) (fuel:=fuel) (m:=seatN L (huntR v L P fuel).1.plan L.length) L.length [] (s0 L P) [] ho (by rw[hp.2];exact Int.le_refl _)
 rw[List.append_nil] at e
 exact chkB_iff.2 e
theorem tree_len (hc:BCtx v L P) {N:Int} (h:SCtx v L P N):(huntR v L P 1073741824).1.tree.length≤11111:=by
 have h1:=(hunt_inv (v:=v) (L:=L) (P:=P) (fuel:=1073741824) L.length [] (s0 L P) s0_inv).t
 have h1:((huntR v L P 1073741824).1.tree.length:Int)≤(huntR v L P 1073741824).1.nodes:=h1
 have h2:=h.n
 have h3:=h.n2
 omega
end
end Go.Px

set_option linter.unusedVariables false
set_option linter.unusedSimpArgs false
namespace Go.Px
open Go Go.Sh
section
variable {k:Nat} {v:Venue} {L:List Party} {P:List Pin} {r:List Int} {fuel m:Int} {t:List Bool} {σ:Type}
theorem cond_self' {α:Type} {c:Bool} {a : α} : cond c a a=a:=by cases c <;> rfl
theorem rowC_app {f:Int → σ → σ×Bool} : ∀(l l2:List Int) (s : σ),rowC f (l++l2) s=if (rowC f l s).2=true then rowC f l2 (rowC f l s).1 else rowC f l s
 | [],l2,s=>rfl
 | x::xs,l2,s=>by
  rw[List.cons_append,rowC,rowC]
  by_cases h:(f x s).2=true
  ·rw[if_pos h,if_pos h]
   exact rowC_app xs l2 _
  ·rw[if_neg h,if_neg h,if_neg h]
theorem rowC_one {f:Int → σ → σ×Bool} {x:Int} {s : σ} : rowC f [x] s=f x s:=by
 rw[rowC]
 split
 ·rename_i h
  exact Prod.ext rfl h.symm
 ·rfl
theorem rowRun_C {f:Int→HS→HS×Bool} : ∀(l:List Int) (s:HS),rowRun f l s=rowC f l s
 | [],s=>rfl
 | x::xs,s=>by
  rw[rowRun,rowC,rowRun_C xs]
theorem ref6_Hall_Most_eq (hv:Small k v) (hk:1000 < k) (hL:L.length < k) (hP:P.length < k) (hrk:r.length < k) (h:StateP v L P r):ref6_Hall_Most k (Ref6Hall.mk v (usL v)) L r P=some (mostN v L P r L.length):=by
 have hb:=hv.b
 have e2:=most_gen h (f:=fun n c i=>ref6_Hall_Most_l0 k (Ref6Hall.mk v (usL v)) L r P n c i) (op:=fun i=>ref6_Hall_Open k (Ref6Hall.mk v (usL v)) L r P i) (fun i hi=>ref6_Open_eq hv hk h hrk hP hi)
  (fun n i c hi=>by
   show ref6_Hall_Most_l0 k (Ref6Hall.mk v (usL v)) L r P (n+1) c (i:Int)=_
   rw[ref6_Hall_Most_l0,condD (by omega),bindS (idx_aI (l:=L) (by omega) (by omega)),wr_succ (by omega)])
  (fun n c=>by
   show ref6_Hall_Most_l0 k (Ref6Hall.mk v (usL v)) L r P (n+1) c (L.length:Int)=_
   rw[ref6_Hall_Most_l0,condN (by omega)]) L.length k 0 (by omega) (by omega)
 have e2:ref6_Hall_Most_l0 k (Ref6Hall.mk v (usL v)) L r P k 0 0=_:=e2
 unfold ref6_Hall_Most
 rw[bindS e2]
theorem ref15_pinned_eq (hP:RiseP P) (hk:P.length < k) (hb:k≤4294967290) (x:Int):ref15_pinned k P x=some ((pinAt P x).isSome):=by
 unfold ref15_pinned
 have e:=scanB (F:=fun n i=>ref15_pinned_l0 k P x n (i:Int)) (len:=P.length) (k:=k) (fun i=>¬(aI P (i:Int)).Party=x) (t:=()) (r:=true)
  (fun n i hi _ hg=>by
   rw[ref15_pinned_l0,condD (by omega),bindS (idx_aI (by omega) (by omega)),condN hg,wr_succ (by omega)])
  (fun n i hi _ hg=>by
   rw[ref15_pinned_l0,condD (by omega),bindS (idx_aI (by omega) (by omega)),condD (Classical.not_not.1 hg)])
  (fun n _=>by
   rw[ref15_pinned_l0,condN (by omega)]) hk
 have e:ref15_pinned_l0 k P x k 0=_:=e
 rw[bindS e]
 rcases Classical.em (∀i:Nat,i < P.length→¬(aI P (i:Int)).Party=x) with h | h
 ·rw[dB_T h,if_pos rfl,elim_go]
  cases hp:pinAt P x with
  | none=>rfl
  | some f =>
   obtain⟨i,h1,h2,_⟩:=pinAt_some hp
   exact absurd h2 (h i h1)
 ·rw[dB_F h,if_neg (by simp),elim_rt]
  obtain⟨i,hi⟩:=Classical.not_forall.1 h
  obtain⟨h1,h2⟩:=Classical.not_imp.1 hi
  rw[← Classical.not_not.1 h2,pinAt_get hP h1]
  rfl
theorem slook_l0 {a0:Ref15Search} {o:List Int} (ho:o.length≤1000) (hrl:r.length≤1000) {rec_:Ref15Search→List Int→Option (Ref15Result×Int×Bool)} {f:Int→HS→HS×Bool} {A:Int}
  (hf:∀x s,HInv fuel s→HInv fuel (f x s).1) (hrec:∀x,x ∈ o→∀s:HS,HInv fuel s→rec_ (Ref15Search.mk a0.H a0.L a0.Pins a0.Fuel (Ref15Result.mk A s.plan s.nodes s.tree) s.most false) (r++[x])=some (Ref15Result.mk A (f x s).1.plan (f x s).1.nodes (f x s).1.tree,(f x s).1.most,!(f x s).2)):∀(e n i:Nat) (s:HS),i+e=o.length→e < n→HInv fuel s →
  ref15_Search_look_l0 k a0 r o rec_ n A s.plan s.nodes s.tree s.most false (i:Int)=some (A,(rowC f (o.drop i) s).1.plan,(rowC f (o.drop i) s).1.nodes,(rowC f (o.drop i) s).1.tree,(rowC f (o.drop i) s).1.most,!(rowC f (o.drop i) s).2)
 | e,0,i,s,_,h,_=>absurd h (by omega)
 | 0,n+1,i,s,hi,_,hs=>by
  rw[ref15_Search_look_l0,condN (by omega),List.drop_eq_nil_of_le (by omega),rowC]
  rfl
 | e+1,n+1,i,s,hi,hd,hs=>by
  have hm:=aI_mem (l:=o) (x:=(i:Int)) (by omega) (by omega)
  rw[ref15_Search_look_l0,condD (by omega),cNF,gdD (by simp only[List.length_nil];omega),bindS (idx_aI (by omega) (by omega)),List.nil_append,gdD (by simp only[List.length_singleton];omega),drop_aI (by omega),rowC]
  generalize aI o (i:Int)=x at hm
  rw[bindS (hrec x hm s hs)]
  dsimp only
  cases hq:(f x s).2
  ·obtain⟨n,rfl⟩:∃j,n=j+1:=⟨n-1,by omega⟩
   have e:∀A:HS×Bool,(if false=true then A else f x s)=f x s:=fun A=>if_neg (by simp)
   rw[e,hq,wr_succ (by omega),ref15_Search_look_l0,Bool.not_false,cNT,cond_self']
  ·rw[if_pos rfl,wr_succ (by omega)]
   exact slook_l0 ho hrl hf hrec e n (i+1) (f x s).1 (by omega) (by omega) (hf x s hs)
theorem slook_eq (hc:BCtx v L P) (hfu:fuel≤1073741824) {A:Int} : ∀(d k:Nat) (r:List Int) (s:HS),1001+d < k→k≤20000→r.length+d=L.length→StateP v L P r→HInv fuel s→ref15_Search_look k (Ref15Search.mk (Ref6Hall.mk v (usL v)) L P fuel (Ref15Result.mk A s.plan s.nodes s.tree) s.most false) r=some (Ref15Result.mk A (hunt v L P fuel d r s).1.plan (hunt v L P fuel d r s).1.nodes (hunt v L P fuel d r s).1.tree,(hunt v L P fuel d r s).1.most,!(hunt v L P fuel d r s).2)
 | d,0,r,s,h,_,_,_,_=>absurd h (by omega)
 | 0,k+1,r,s,hk,hk2,hr,hst,hs=>by
  have h4:=hc.pr.l4
  have hs1:=hs.n0
  rw[ref15_Search_look,hunt]
  dsimp only
  rw[cond_false,bindS rfl]
  by_cases h1:fuel≤s.nodes
  ·rw[condD h1,if_pos h1]
   rfl
  ·rw[condN h1,if_neg h1,condD (by omega),bindS (ref6_Seated_eq hc.pr.all (by omega) (by omega) (show r.length=L.length by omega)),wr_id (by omega) (by omega)]
   unfold leafS
   rw[most_full (r:=r) (L:=L) (by omega) _ (Nat.le_refl _)]
   by_cases h2:s.most < seatN L r L.length
   ·rw[condD h2,if_pos h2,gdD (by simp only[List.length_nil];omega),List.nil_append]
    rfl
   ·rw[condN h2,if_neg h2]
    rfl
 | d+1,k+1,r,s,hk,hk2,hr,hst,hs=>by
  have h4:=hc.pr.l4
  have hP4:=hc.l4
  have hs1:=hs.n0
  have hs2:=hs.t
  have hv:Small k v:=hc.pr.small (by omega) (by omega)
  have hn1:=hc.pr.n1
  have hol:=openL_len (v:=v) (L:=L) (P:=P) (r:=r) (i:=(r.length:Int))
  rw[ref15_Search_look,hunt]
  dsimp only
  rw[cond_false,bindS rfl]
  by_cases h1:fuel≤s.nodes
  ·rw[condD h1,if_pos h1]
   rfl
  rw[condN h1,if_neg h1,condN (by omega),bindS (ref6_Hall_Most_eq hv (by omega) (by omega) (by omega) (by omega) hst),wr_id (by omega) (by omega)]
  by_cases h2:s.most < mostN v L P r L.length
  ·rw[condN (by omega),if_pos h2,gdD (by simp only[List.length_singleton];omega),bindS (ref6_Open_eq hv (by omega) hst (by omega) (by omega) ⟨by omega,by omega⟩),rowRun_C]
   have hrec:∀x,x ∈ rowL v L P r→∀s:HS,HInv fuel s→ref15_Search_look k (Ref15Search.mk (Ref6Hall.mk v (usL v)) L P fuel (Ref15Result.mk A s.plan s.nodes s.tree) s.most false) (r++[x])=some (Ref15Result.mk A (hunt v L P fuel d (r++[x]) s).1.plan (hunt v L P fuel d (r++[x]) s).1.nodes (hunt v L P fuel d (r++[x]) s).1.tree,(hunt v L P fuel d (r++[x]) s).1.most,!(hunt v L P fuel d (r++[x]) s).2):=fun x hx s hs=>slook_eq hc hfu d k (r++[x]) s (by omega) (by omega) (by rw[List.length_append,List.length_singleton];omega) ((rowL_next hv hst (by omega) hx).state hv) hs
   have hs':HInv fuel ⟨s.plan,s.most,s.nodes+1,s.tree++[true]⟩:=⟨by show 0≤s.nodes+1;omega,by show((s.tree++[true]).length:Int)≤s.nodes+1;rw[List.length_append,List.length_singleton];omega⟩
   have e0:=slook_l0 (k:=k) (r:=r) (fuel:=fuel) (A:=A) (a0:=Ref15Search.mk (Ref6Hall.mk v (usL v)) L P fuel (Ref15Result.mk A s.plan s.nodes s.tree) s.most false) (o:=openL v L P r (r.length:Int)) (rec_:=ref15_Search_look k) (f:=fun x s=>hunt v L P fuel d (r++[x]) s) (by omega) (by omega) (fun x s hs=>hunt_inv d (r++[x]) s hs) (fun x hx s hs=>hrec x (List.mem_append_left _ hx) s hs) (openL v L P r (r.length:Int)).length k 0 _ (by omega) (by omega) hs'
   rw[List.drop_zero] at e0
   have e0:ref15_Search_look_l0 k (Ref15Search.mk (Ref6Hall.mk v (usL v)) L P fuel (Ref15Result.mk A s.plan s.nodes s.tree) s.most false) r (openL v L P r (r.length:Int)) (ref15_Search_look k) k A s.plan (s.nodes+1) (s.tree++[true]) s.most false 0=_:=e0
   rw[bindS e0]
   have hle:=rowRun_inv (fuel:=fuel) (f:=fun x s=>hunt v L P fuel d (r++[x]) s) (fun x s hs=>hunt_inv d (r++[x]) s hs) (openL v L P r (r.length:Int)) _ hs'
   rw[rowRun_C] at hle
   have hrl:rowL v L P r=openL v L P r (r.length:Int)++(if (pinAt P (r.length:Int)).isSome=true then [] else [-1]):=rfl
   rw[hrl,rowC_app]
   rw[hrl] at hrec
   generalize rowC (fun x s=>hunt v L P fuel d (r++[x]) s) (openL v L P r (r.length:Int)) ⟨s.plan,s.most,s.nodes+1,s.tree++[true]⟩=q at hle
   obtain⟨b,g⟩:=q
   dsimp only
   rw[bindS (ref15_pinned_eq hc.ok.rise (by omega) (by omega) _)]
   cases g
   ·rw[if_neg (by simp),Bool.not_false,Bool.not_true,cond_self',bindS rfl,cond_false]
   ·rw[if_pos rfl,Bool.not_true]
    cases hp:(pinAt P (r.length:Int)).isSome
    ·rw[hp] at hrec
     rw[cNF,bindS rfl,Bool.not_false,cond_true,if_neg (by simp),rowC_one,gdD (by simp only[List.length_nil];omega),List.nil_append,gdD (by simp only[List.length_singleton];omega),bindS (hrec (-1) (by simp) b hle)]
    ·rw[cNT,bindS rfl,cond_false,if_pos rfl]
     rfl
  ·rw[condD (by omega),if_neg h2,gdD (by simp only[List.length_singleton];omega)]
   rfl
end
end Go.Px

set_option linter.unusedVariables false
set_option linter.unusedSimpArgs false
namespace Go.Px
open Go Go.Sh
section
variable {k:Nat} {v:Venue} {L:List Party} {P:List Pin} {r:List Int} {fuel m:Int} {t:List Bool}
theorem rleast_l1 (hP:PinOK v L P) (hl:P.length≤1000):∀(d n j:Nat),j+d=P.length→d < n→ref15_Least_l1 k P n (leastL L P j) (j:Int)=some (leastL L P P.length)
 | d,0,j,_,h=>absurd h (by omega)
 | 0,n+1,j,hj,_=>by rw[ref15_Least_l1,condN (by omega),show j=P.length by omega]
 | d+1,n+1,j,hj,hd=>by
  have hG:=hP j (by omega)
  have h1:=hG.lo
  have h2:=hG.hi
  have hl1:(leastL L P j).length=L.length:=leastL_len
  rw[ref15_Least_l1,condD (by omega),bindS (idx_aI (by omega) (by omega)),bindS (idx_aI (by omega) (by omega)),bindS (idx_aI (l:=leastL L P j) h1 (by omega)),wr_succ (by omega)]
  have e:(leastL L P j).set (aI P (j:Int)).Party.toNat (aI P (j:Int)).First=leastL L P (j+1):=by
   refine aI_ext (by rw[List.length_set,leastL_len,leastL_len]) fun i hi=>?_
   rw[List.length_set,leastL_len] at hi
   rw[aI_set (by omega),leastL_at hi,leastL_at hi,pmN,mget_mset]
   by_cases h:(i:Int)=(aI P (j:Int)).Party
   ·rw[if_pos (by omega),if_pos h];rfl
   ·rw[if_neg (by omega),if_neg h]
  rw[e]
  exact rleast_l1 hP hl d n (j+1) (by omega) (by omega)
theorem ref15_Least_eq (hP:PinOK v L P) (hk:1000 < k) (hb:k≤4294967290) (hL:L.length≤1000) (hPl:P.length≤1000):ref15_Least k L P=some (pinPlan L P):=by
 have e0:=fill0 (f:=fun n w i=>ref15_Least_l0 k n w i) (len:=L.length) (fun _=>(-1:Int))
  (fun n i w hi hw=>by
   show ref15_Least_l0 k (n+1) w (i:Int)=ref15_Least_l0 k n _ _
   rw[ref15_Least_l0,condD (by omega),bindS (idx_aI (by omega) (by omega)),wr_succ (by omega),Int.toNat_natCast])
  (fun n w hw=>by show ref15_Least_l0 k (n+1) w _=_;rw[ref15_Least_l0,condN (by omega)])
  (k:=k) (by omega) (List.replicate L.length 0) (by simp)
 have e0:ref15_Least_l0 k k (List.replicate L.length 0) 0=some (leastL L P 0):=e0
 have e1:=rleast_l1 (k:=k) hP hPl P.length k 0 (by omega) (by omega)
 have e1:ref15_Least_l1 k P k (leastL L P 0) 0=some (pinPlan L P):=e1
 unfold ref15_Least
 rw[gdD (by omega),Int.toNat_natCast,bindS e0,bindS e1]
noncomputable def rres (v:Venue) (L:List Party) (P:List Pin) (fuel:Int):Ref15Result:=Ref15Result.mk (ansI v L P fuel) (huntR v L P fuel).1.plan (huntR v L P fuel).1.nodes (huntR v L P fuel).1.tree
theorem ref15_Best_eq (hc:BCtx v L P) (hf0:0≤fuel) (hf:fuel≤1073741824):ref15_Best 20000 v L P fuel=some (rres v L P fuel,0):=by
 have hv:=hc.small
 have h4:=hc.pr.l4
 have hP4:=hc.l4
 have hI:=hc.pr.inn hc.ok
 have hst:=StateP_nil hI
 have hpp:=pinPlan_P hv hI
 have e:=slook_eq hc (fuel:=fuel) hf (A:=0) L.length 20000 [] (s0 L P) (by omega) (by omega) (by simp) hst s0_inv
 have e:ref15_Search_look 20000 (Ref15Search.mk (Ref6Hall.mk v (usL v)) L P fuel (Ref15Result.mk 0 (pinPlan L P) 0 []) (seatN L (pinPlan L P) L.length) false) []=some (Ref15Result.mk 0 (huntR v L P fuel).1.plan (huntR v L P fuel).1.nodes (huntR v L P fuel).1.tree,(huntR v L P fuel).1.most,!(huntR v L P fuel).2):=e
 have hlen:=(huntR_plan (fuel:=fuel) hc).1.len
 unfold ref15_Best
 rw[bindS (x:=Option.bind _ _) (by rw[bindS (ref6_MayPins_eq hv (by omega) (by omega) (by omega)),dB_T hI,cNT,condN (by omega),decide_eq_false (by omega)]),cond_false,bindS (ref6_NewHall_eq hv),mayB_iff.2 hI.1,cond_true,optc_some,bindS (ref15_Least_eq hc.ok (by omega) (by omega) (by omega) (by omega)),bindS (ref6_Seated_eq hc.pr.all (by omega) (by omega) hpp.len),bindS e]
 dsimp only
 unfold rres ansI
 cases (huntR v L P fuel).2
 ·rw[Bool.not_false,cond_true,if_neg (by simp)]
 ·rw[Bool.not_true,cond_false,bindS (ref6_Full_eq (by omega) (by omega)),if_pos rfl]
  cases dB (FullP L (huntR v L P fuel).1.plan)
  ·rw[cond_false,if_neg (by simp)]
  ·rw[cond_true,if_pos rfl]
end
end Go.Px

set_option linter.unusedVariables false
set_option linter.unusedSimpArgs false
namespace Go.Px
open Go Go.Sh
theorem law17_told_eq3:law17_told 20000=some true:=by decide +kernel
section
variable {v:Venue} {L:List Party} {P:List Pin} {r q:List Int} {t:List Bool}
theorem best_le {s:HS} (h:Done L s q):seatN L q L.length≤s.most:=by
 rcases h with h | h
 ·omega
 ·omega
theorem ok_mx (hc:BCtx v L P):(huntR v L P 1073741824).2=true:=by
 obtain⟨N,hN⟩:=SCtx_of hc
 exact hN.ok
theorem tree_mx (hc:BCtx v L P):(huntR v L P 1073741824).1.tree.length≤11111:=by
 obtain⟨N,hN⟩:=SCtx_of hc
 exact tree_len hc hN
theorem nedL_short (hq:PlanP v L P q) (h:chkB v L P q t=true):(nedL v L P q).length≤t.length:=by
 have:=ned_short h
 unfold nedL
 rw[dB_T hq,if_pos rfl,if_pos this.1]
 exact this.2
theorem need_holds (hc:BCtx v L P) (hq:PlanP v L P q):chkB v L P q (nedL v L P q)=decide (seatN L q L.length=(huntR v L P 1073741824).1.most):=by
 have hpl:=huntR_plan (fuel:=1073741824) hc
 have hle:=best_le (huntR_best hc (ok_mx hc) hq)
 cases hn:(nedR v L P q).2
 ·have e:nedL v L P q=[]:=by
   unfold nedL
   rw[dB_T hq,if_pos rfl,hn,if_neg (by simp)]
  have hne:¬seatN L q L.length=(huntR v L P 1073741824).1.most:=fun he=>by
   have:=(ned_iff hc (r:=q)).2 (fun q' hq'=>by rw[he];exact best_le (huntR_best hc (ok_mx hc) hq'))
   rw[hn] at this
   cases this
  rw[e,decide_eq_false hne]
  cases hk:chkB v L P q []
  ·rfl
  ·have:=(ned_short hk).1
   rw[hn] at this
   cases this
 ·have e:nedL v L P q=(nedR v L P q).1:=by
   unfold nedL
   rw[dB_T hq,if_pos rfl,hn,if_pos rfl]
  have h1:=(ned_iff hc (r:=q)).1 hn _ hpl.1
  rw[hpl.2] at h1
  rw[e,ned_holds hn,decide_eq_true (by omega)]
end
end Go.Px

set_option linter.unusedVariables false
set_option linter.unusedSimpArgs false
namespace Go.Px
open Go Go.Sh
theorem CertNeed_true (a0:List Int) (h0:okLI a0) (a1:List Int) (h1:okLI a1) (a2:Int) (h2:okI a2) (a3:List Bool) (h3:okLB a3):∃k,law17_CertNeed k a0 a1 a2 a3=some true:=by
 refine⟨20000,?_⟩
 obtain⟨v,L,e,hp⟩:=law12_Small_eq (k:=20000) a0 a1 (by omega)
 have hv:=hp.small (k:=20000) (by omega) (by omega)
 obtain⟨P,e3,hPl,hP⟩:=law12_Pins_eq hp (k:=20000) (by omega) (by omega) a2
 obtain⟨R,e5,hR,hRl⟩:=ref15_Plans_eq hp (k:=20000) (by omega) (by omega) (P:=P) hPl
 have hc:BCtx v L P:=⟨hp,hPl,hP⟩
 have hR0:0 < R.length:=by
  obtain⟨m,hm,_⟩:=mem_aI ((hR _).2 (pinPlan_P hv (hp.inn hP)))
  omega
 unfold law17_CertNeed
 rw[bindS e]
 dsimp only
 have hpl:=huntR_plan (fuel:=1073741824) hc
 have htl:=tree_mx hc
 have hth:=tree_holds hc (ok_mx hc)
 have hsh:=nedL_short hpl.1 hth
 have hnh:=need_holds hc hpl.1
 rw[decide_eq_true hpl.2] at hnh
 rw[bindS e3,bindS e5,condN (by omega),bindS rfl]
 by_cases h6:60 < (a3.length:Int)
 ·rw[condD h6,bindS law17_told_eq3,cond_true,decide_eq_true (by omega)]
 have eT:(rres v L P 1073741824).Tree=(huntR v L P 1073741824).1.tree:=rfl
 have eP:(rres v L P 1073741824).Plan=(huntR v L P 1073741824).1.plan:=rfl
 have hnl:=nedL_len hc (r:=(huntR v L P 1073741824).1.plan)
 rw[condN h6,bindS (ref15_Best_eq hc (by omega) (by omega))]
 dsimp only
 rw[eT,eP,bindS (need_eq2 hc (hpl.1.ok hv)),bindS (holds_eq hc (hpl.1.ok hv) (by omega)),dB_T hpl.1,Bool.true_and,hnh,cNT,bindS (holds_eq hc (hpl.1.ok hv) (by omega)),dB_T hpl.1,Bool.true_and,bindS law17_told_eq3,cond_true,decide_eq_true (p:=((nedL v L P (huntR v L P 1073741824).1.plan).length:Int)≤((huntR v L P 1073741824).1.tree.length:Int)) (by omega)]
 cases hk:chkB v L P (huntR v L P 1073741824).1.plan a3
 ·rw[cond_false]
 ·have:=nedL_short hpl.1 hk
  rw[cond_true,condN (by omega)]
end Go.Px
