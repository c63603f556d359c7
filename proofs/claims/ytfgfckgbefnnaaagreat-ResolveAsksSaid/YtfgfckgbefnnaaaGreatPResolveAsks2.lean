/- The plain law, in parts: Moved, ResolveAsks. -/
import Derived.Test.YtfgfckgbefnnaaaGreatPResolveAsks1
set_option linter.unusedVariables false
set_option linter.unusedSimpArgs false
namespace Go.Px
open Go Go.Sh
def mvL (a b:List Int):List Int:=((List.range (min a.length b.length)).filter (fun j:Nat=>decide (¬aI a (j:Int)=aI b (j:Int)))).map (fun j:Nat=>(j:Int))
theorem resolve_Moved_eq {k:Nat} (a b:List Int) (ha:a.length < k) (hb:k≤4294967290):resolve_Moved k a b=some (mvL a b):=by
 have hmin:(if (b.length:Int) < (a.length:Int) then (b.length:Int) else (a.length:Int))=((min a.length b.length:Nat):Int):=by split <;> omega
 have e:=gather0 (f:=fun n w i=>resolve_Moved_l0 k a b n w i) (len:=min a.length b.length) (c:=0) (fun j:Nat=>decide (¬aI a (j:Int)=aI b (j:Int))) (fun j:Nat=>(j:Int))
  (fun n i w hi hw=>by
   show resolve_Moved_l0 k a b (n+1) w (i:Int)=resolve_Moved_l0 k a b n _ _
   rw[resolve_Moved_l0,hmin,condD (by omega),bindS (idx_aI (by omega) (by omega)),bindS (idx_aI (by omega) (by omega)),wr_succ (by omega)]
   by_cases h:aI a (i:Int)=aI b (i:Int)
   ·rw[condNT h,if_neg (by simpa using h)]
   ·rw[condNF h,gdD (by simp only[List.length_singleton];omega),if_pos (by simpa using h)])
  (fun n w=>by show resolve_Moved_l0 k a b (n+1) w _=_;rw[resolve_Moved_l0,hmin,condN (by omega)])
  (k:=k) (by omega) [] (by simp)
 have e:resolve_Moved_l0 k a b k [] 0=_:=e
 unfold resolve_Moved
 rw[bindS e,List.nil_append]
 rfl
theorem mvL_len {a b:List Int} : (mvL a b).length≤a.length:=by
 unfold mvL
 rw[List.length_map]
 have:=List.length_filter_le (fun j:Nat=>decide (¬aI a (j:Int)=aI b (j:Int))) (List.range (min a.length b.length))
 rw[List.length_range] at this
 omega
end Go.Px

set_option linter.unusedVariables false
set_option linter.unusedSimpArgs false
namespace Go.Px
open Go Go.Sh
section
variable {k:Nat} {v:Venue} {L:List Party} {P:List Pin} {r:List Int} {fuel m:Int} {t:List Bool}
theorem sameBits_refl (k:Nat) (l:List Bool) (hl:l.length < k) (hb:l.length≤4294967290):ref15_SameBits k l l=some true:=by
 unfold ref15_SameBits
 rw[condNT rfl]
 have h:=scan_go (f:=fun n i=>ref15_SameBits_l0 k l l n i) (len:=l.length) (good:=fun _=>True)
  (fun n i hi _=>by
   show ref15_SameBits_l0 k l l (n+1) (i:Int)=_
   rw[ref15_SameBits_l0,condD (by omega),bindS (idx_aI (by omega) (by omega)),bindS (idx_aI (by omega) (by omega)),beq_self_eq_true,cNT,wr_succ (by omega)])
  (fun n=>by show ref15_SameBits_l0 k l l (n+1) _=_;rw[ref15_SameBits_l0,condN (by omega)]) l.length k 0 (by omega) hl (fun _ _ _=>trivial)
 have h:ref15_SameBits_l0 k l l k 0=_:=h
 rw[bindS h,elim_go]
theorem sameParties_refl (k:Nat) (l:List Party) (hl:l.length < k) (hb:l.length≤4294967290):ref15_SameParties k l l=some true:=by
 unfold ref15_SameParties
 rw[condNT rfl]
 have h:=scan_go (f:=fun n i=>ref15_SameParties_l0 k l l n i) (len:=l.length) (good:=fun _=>True)
  (fun n i hi _=>by
   show ref15_SameParties_l0 k l l (n+1) (i:Int)=_
   rw[ref15_SameParties_l0,condD (by omega),bindS (idx_aI (by omega) (by omega)),bindS (idx_aI (by omega) (by omega)),condNT rfl,wr_succ (by omega)])
  (fun n=>by show ref15_SameParties_l0 k l l (n+1) _=_;rw[ref15_SameParties_l0,condN (by omega)]) l.length k 0 (by omega) hl (fun _ _ _=>trivial)
 have h:ref15_SameParties_l0 k l l k 0=_:=h
 rw[bindS h,elim_go]
theorem samePins_refl (k:Nat) (l:List Pin) (hl:l.length < k) (hb:l.length≤4294967290):ref15_SamePins k l l=some true:=by
 unfold ref15_SamePins
 rw[condNT rfl]
 have h:=scan_go (f:=fun n i=>ref15_SamePins_l0 k l l n i) (len:=l.length) (good:=fun _=>True)
  (fun n i hi _=>by
   show ref15_SamePins_l0 k l l (n+1) (i:Int)=_
   rw[ref15_SamePins_l0,condD (by omega),bindS (idx_aI (by omega) (by omega)),bindS (idx_aI (by omega) (by omega)),condNT rfl,wr_succ (by omega)])
  (fun n=>by show ref15_SamePins_l0 k l l (n+1) _=_;rw[ref15_SamePins_l0,condN (by omega)]) l.length k 0 (by omega) hl (fun _ _ _=>trivial)
 have h:ref15_SamePins_l0 k l l k 0=_:=h
 rw[bindS h,elim_go]
theorem ref15_Moved_eq (a b:List Int) (ha:a.length < k) (hb:k≤4294967290):ref15_Moved k a b=some (mvL a b):=by
 have e:=gather0 (f:=fun n w i=>ref15_Moved_l0 k a b n w i) (len:=min a.length b.length) (c:=0) (fun j:Nat=>decide (¬aI a (j:Int)=aI b (j:Int))) (fun j:Nat=>(j:Int))
  (fun n i w hi hw=>by
   show ref15_Moved_l0 k a b (n+1) w (i:Int)=ref15_Moved_l0 k a b n _ _
   rw[ref15_Moved_l0,condD (by omega),condD (by omega),bindS (idx_aI (by omega) (by omega)),bindS (idx_aI (by omega) (by omega)),wr_succ (by omega)]
   by_cases h:aI a (i:Int)=aI b (i:Int)
   ·rw[condNT h,if_neg (by simpa using h)]
   ·rw[condNF h,gdD (by simp only[List.length_singleton];omega),if_pos (by simpa using h)])
  (fun n w=>by
   show ref15_Moved_l0 k a b (n+1) w _=_
   rw[ref15_Moved_l0]
   by_cases h:((min a.length b.length:Nat):Int) < (a.length:Int)
   ·rw[condD h,condN (by omega)]
   ·rw[condN h])
  (k:=k) (by omega) [] (by simp)
 have e:ref15_Moved_l0 k a b k [] 0=_:=e
 unfold ref15_Moved
 rw[bindS e,List.nil_append]
 rfl
theorem ref15_Without_eq (hk:1000 < k) (hb:k≤4294967290) (hL:L.length≤1000) (hr:r.length=L.length) (hR:RiseP P) (hP:∀i:Nat,i < P.length→0≤(aI P (i:Int)).Party∧(aI P (i:Int)).Party < 1000) (hPl:P.length≤1000) (x:Int):ref15_Without k L r P x=some (woR L r P x):=by
 unfold ref15_Without woR
 by_cases h0:x < 0
 ·rw[condD h0,bindS rfl,cond_true,dB_F (fun h=>by omega),if_neg (by simp)]
 by_cases h1:(L.length:Int)≤x
 ·rw[condN h0,condD h1,bindS rfl,cond_true,dB_F (fun h=>by omega),if_neg (by simp)]
 obtain⟨j,rfl⟩:=Int.eq_ofNat_of_zero_le (show 0≤x by omega)
 rw[condN h0,condN h1,condNT (by omega),bindS (ref15_pinned_eq hR (by omega) hb _),bindS rfl]
 cases hp:pinAt P (j:Int) with
 | some f =>
  obtain⟨i,a,b,_⟩:=pinAt_some hp
  rw[Option.isSome_some,cond_true,dB_F (fun h=>h.2.2 ⟨i,a,b⟩),if_neg (by simp)]
 | none =>
  have hn:¬PinnedP P (j:Int):=fun⟨i,a,b⟩=>by
   have:=pinAt_get hR a
   rw[b,hp] at this
   cases this
  have e:=gather0 (f:=fun n w i=>ref15_Without_l0 k P (j:Int) n w i) (len:=P.length) (c:=0) (fun _=>true) (fun i:Nat=>shP j (aI P (i:Int)))
   (fun n i w hi hw=>by
    show ref15_Without_l0 k P (j:Int) (n+1) w (i:Int)=ref15_Without_l0 k P (j:Int) n _ _
    have hpi:=hP i hi
    rw[ref15_Without_l0,condD (by omega),bindS (idx_aI (by omega) (by omega)),wr_succ (by omega),if_pos rfl]
    unfold shP
    by_cases h2:(j:Int) < (aI P (i:Int)).Party
    ·rw[condD h2,gdD (by simp only[List.length_singleton];omega),if_pos h2,wr_id (by omega) (by omega)]
    ·rw[condN h2,gdD (by simp only[List.length_singleton];omega),if_neg h2])
   (fun n w=>by show ref15_Without_l0 k P (j:Int) (n+1) w _=_;rw[ref15_Without_l0,condN (by omega)])
   (k:=k) (by omega) [] (by simp)
  have e:ref15_Without_l0 k P (j:Int) k [] 0=_:=e
  rw[Option.isSome_none,cond_false,bindS e,filter_yes,range_map_aI (f:=shP j),dB_T ⟨by omega,by omega,hn⟩,if_pos rfl,Int.toNat_natCast,List.nil_append]
  rw[bindS (slc_a (by omega)),gdD (by simp only[List.length_nil,List.length_take];omega),bindS (slc_b (by omega) (by omega)),List.nil_append,gdD (by rw[List.length_take,List.length_drop];omega),bindS (slc_a (by omega)),gdD (by simp only[List.length_nil,List.length_take];omega),bindS (slc_b (by omega) (by omega)),List.nil_append,gdD (by rw[List.length_take,List.length_drop];omega)]
  rfl
theorem search_Best_bad (hc:BCtx v L P) (h:fuel < 0∨1073741824 < fuel):search_Best 20000 v L P fuel=some (SearchResult.mk 0 [] 0 [],1):=by
 have hv:=hc.small
 have h4:=hc.pr.l4
 have hP4:=hc.l4
 have hI:=hc.pr.inn hc.ok
 have eN:=prop_New_eq (k:=20000) (L:=L) (P:=P) hv (by omega) (by omega) (by omega) (pins_ok hv hc.ok)
 rw[dB_T hI,if_pos rfl] at eN
 unfold search_Best
 rw[bindS eN]
 dsimp only
 rw[optc_some,condNT rfl]
 by_cases h0:fuel < 0
 ·rw[condD h0,bindS rfl,cond_true]
 ·rw[condN h0,decide_eq_true (by omega),bindS rfl,cond_true]
noncomputable def agS (v:Venue) (L:List Party) (P:List Pin) (r:List Int) (f:Int):SearchResult×Int:=if 0≤f∧f≤1073741824 then (if keepOld v L P r f=true then (SearchResult.mk (ansI v L P f) r (huntR v L P f).1.nodes (huntR v L P f).1.tree,0) else (resR v L P f,0)) else (SearchResult.mk 0 [] 0 [],1)
theorem again_S (hc:BCtx v L P) (hr:PlanP v L P r):resolve_Again 20000 v L P r fuel=some (agS v L P r fuel):=by
 unfold agS
 by_cases h:0≤fuel∧fuel≤1073741824
 ·rw[if_pos h,resolve_Again_eq hc hr h.1 h.2]
 ·have hv:=hc.small
  have h4:=hc.pr.l4
  have hP4:=hc.l4
  unfold resolve_Again
  rw[if_neg h,bindS (plan_May_eq hv (by omega) (by omega) (by omega) (pins_ok hv hc.ok) (hr.ok hv)),dB_T hr,cNT,bindS (search_Best_bad hc (by omega))]
  rfl
theorem again_R (hc:BCtx v L P) (hr:PlanP v L P r):ref15_Again 20000 v L P r fuel=some (Ref15Result.mk (agS v L P r fuel).1.Answer (agS v L P r fuel).1.Plan (agS v L P r fuel).1.Nodes (agS v L P r fuel).1.Tree,(agS v L P r fuel).2):=by
 have hv:=hc.small
 have h4:=hc.pr.l4
 have hP4:=hc.l4
 have hrl:=hr.len
 unfold ref15_Again agS
 by_cases h:0≤fuel∧fuel≤1073741824
 ·have hp:=huntR_plan (fuel:=fuel) hc
  have e1:ref6_Seated 20000 L (rres v L P fuel).Plan=some (huntR v L P fuel).1.most:=by
   rw[ref6_Seated_eq hc.pr.all (by omega) (by omega) (show(rres v L P fuel).Plan.length=L.length from hp.1.len)]
   exact congrArg some hp.2
  rw[if_pos h,bindS (x:=Option.bind _ _) (by rw[bindS (ref6_MayPlan_eq hv (by omega) (by omega) (by omega)),dB_T hr,cNT,condN (by omega),decide_eq_false (by omega)]),cond_false,bindS (ref15_Best_eq hc h.1 h.2)]
  dsimp only
  have ha:(rres v L P fuel).Answer=ansI v L P fuel:=rfl
  rw[condD rfl,ha,bindS e1,bindS (ref6_Seated_eq hc.pr.all (by omega) (by omega) hrl)]
  unfold keepOld
  by_cases h3:ansI v L P fuel=3
  ·rw[condD h3,bindS rfl]
   by_cases hm:(huntR v L P fuel).1.most≤seatN L r L.length
   ·rw[condD hm,dB_T ⟨h3,hm⟩,if_pos rfl,gdD (by simp only[List.length_nil];omega),List.nil_append]
    rfl
   ·rw[condN hm,dB_F (fun x=>hm x.2),if_neg (by simp)]
    rfl
  ·rw[condN h3,bindS rfl,cond_false,dB_F (fun x=>h3 x.1),if_neg (by simp)]
   rfl
 ·rw[if_neg h,bindS (x:=Option.bind _ _) (a:=true) (by
   rw[bindS (ref6_MayPlan_eq hv (by omega) (by omega) (by omega)),dB_T hr,cNT]
   by_cases h0:fuel < 0
   ·rw[condD h0]
   ·rw[condN h0,decide_eq_true (by omega)]),cond_true]
theorem tree_bd (hc:BCtx v L P) (hf:fuel≤1073741824):(huntR v L P fuel).1.tree.length≤11111:=by
 have h1:=(hunt_inv (v:=v) (L:=L) (P:=P) (fuel:=fuel) L.length [] (s0 L P) s0_inv).t
 have h1:((huntR v L P fuel).1.tree.length:Int)≤(huntR v L P fuel).1.nodes:=h1
 obtain⟨N,hN⟩:=SCtx_of hc
 have hl:Less fuel (huntR v L P fuel) (huntR v L P 1073741824) (s0 L P):=hunt_less hf L.length [] (s0 L P)
 have h2:=hl.le
 have h3:=hN.n
 have h4:=hN.n2
 omega
theorem agS_len (hc:BCtx v L P) (hr:PlanP v L P r):(agS v L P r fuel).1.Plan.length≤4∧(agS v L P r fuel).1.Tree.length≤11111:=by
 have h4:=hc.pr.l4
 unfold agS
 by_cases h:0≤fuel∧fuel≤1073741824
 ·have h1:=tree_bd hc h.2
  rw[if_pos h]
  by_cases hk:keepOld v L P r fuel=true
  ·rw[if_pos hk]
   exact⟨by show r.length≤4;rw[hr.len];omega,h1⟩
  ·rw[if_neg hk]
   exact⟨by show(huntR v L P fuel).1.plan.length≤4;rw[(huntR_plan hc).1.len];omega,h1⟩
 ·rw[if_neg h]
  exact⟨by simp,by simp⟩
theorem woR_len (hL:L.length≤100) (hP:P.length≤100) (hr:r.length=L.length) (x:Int):(woR L r P x).1.length≤100∧(woR L r P x).2.1.length≤100∧(woR L r P x).2.2.1.length≤100:=by
 unfold woR
 split
 ·rename_i h
  have h:=dB_iff.1 h
  refine⟨?_,?_,?_⟩
  ·show(cutL x.toNat L).length≤100
   rw[cut_len (by omega)];omega
  ·show(cutL x.toNat r).length≤100
   rw[cut_len (by omega)];omega
  ·show(P.map (shP x.toNat)).length≤100
   rw[List.length_map];exact hP
 ·exact⟨by simp,by simp,by simp⟩
theorem asks_l0 (hc:BCtx v L P) (hr:PlanP v L P r):∀(d n i:Nat) (f k:Int),i+d=2→d < n→law18_ResolveAsks_l0 20000 (v,L) P r n f k (i:Int)=some (.go ())
 | d,0,i,f,k,_,h=>absurd h (by omega)
 | 0,n+1,i,f,k,hi,_=>by
  rw[law18_ResolveAsks_l0,condN (by omega)]
 | d+1,n+1,i,f,k,hi,hd=>by
  have h4:=hc.pr.l4
  have hP4:=hc.l4
  have hrl:=hr.len
  obtain⟨b1,b2⟩:=agS_len hc hr (fuel:=f)
  obtain⟨w1,w2,w3⟩:=woR_len (L:=L) (P:=P) (by omega) (by omega) hrl k
  rw[law18_ResolveAsks_l0,condD (by omega)]
  dsimp only
  rw[bindS (again_S hc hr),bindS (again_R hc hr)]
  dsimp only
  rw[condNT rfl,condNT rfl,condNT rfl,bindS (sameInts_refl _ _ (by omega) (by omega)),cNT,bindS (sameBits_refl _ _ (by omega) (by omega)),bindS rfl,Bool.not_true,cond_false]
  rw[bindS (resolve_Without_eq (by omega) (by omega) hrl (hc.ok.rng (by omega)) (by omega) _),bindS (ref15_Without_eq (by omega) (by omega) (by omega) hrl hc.ok.rise (hc.ok.rng (by omega)) (by omega) _),condNT rfl,bindS (sameParties_refl _ _ (by omega) (by omega)),cNT,bindS (sameInts_refl _ _ (by omega) (by omega)),cNT,bindS (samePins_refl _ _ (by omega) (by omega)),cNT,wr_succ (by omega)]
  exact asks_l0 hc hr d n (i+1) _ _ (by omega) (by omega)
theorem ResolveAsks_true (a0:List Int) (h0:okLI a0) (a1:List Int) (h1:okLI a1) (a2:Int) (h2:okI a2) (a3:Int) (h3:okI a3) (a4:Int) (h4:okI a4) (a5:Int) (h5:okI a5) (a6:Party) (h6:okParty a6):∃k,law18_ResolveAsks k a0 a1 a2 a3 a4 a5 a6=some true:=by
 refine⟨20000,?_⟩
 obtain⟨v,L,e,hp⟩:=law12_Small_eq (k:=20000) a0 a1 (by omega)
 have hv:=hp.small (k:=20000) (by omega) (by omega)
 obtain⟨P,e3,hPl,hP⟩:=law12_Pins_eq hp (k:=20000) (by omega) (by omega) a2
 obtain⟨R,e5,hR,hRl⟩:=ref15_Plans_eq hp (k:=20000) (by omega) (by omega) (P:=P) hPl
 have hc:BCtx v L P:=⟨hp,hPl,hP⟩
 have h4:=hp.l4
 have hR0:0 < R.length:=by
  obtain⟨m,hm,_⟩:=mem_aI ((hR _).2 (pinPlan_P hv (hp.inn hP)))
  omega
 unfold law18_ResolveAsks
 rw[bindS e]
 dsimp only
 obtain⟨u0,u1⟩:=um a3 (R.length:Int) (by omega)
 have hw:IntKind.u64.wrap (R.length:Int)=(R.length:Int):=wu_id (by omega) (by omega)
 rw[bindS e3,bindS e5,condN (by omega),gdD (by rw[hw];omega),hw,bindS (idx_aI u0 u1)]
 have hr:=(hR _).1 (aI_mem (l:=R) u0 u1)
 have hr0:=(hR _).1 (aI_mem (l:=R) (x:=0) (by omega) (by omega))
 generalize aI R ((IntKind.u64.wrap a3).tmod (R.length:Int))=r at hr
 have hrl:=hr.len
 have el:=asks_l0 hc hr 2 20000 0 a4 a5 (by omega) (by omega)
 have el:law18_ResolveAsks_l0 20000 (v,L) P r 20000 a4 a5 0=some (.go ()):=el
 have hml:=mvL_len (a:=r) (b:=aI R 0)
 rw[bindS el,elim_go,bindS (resolve_With_eq (by omega) (by omega) (by omega)),bindS law18_told_eq3,cond_true]
 dsimp only
 rw[gdD (by simp only[List.length_nil];omega),List.nil_append,gdD (by simp only[List.length_singleton];omega),bindS (sameParties_refl _ _ (by rw[List.length_append,List.length_singleton];omega) (by rw[List.length_append,List.length_singleton];omega)),cond_true,gdD (by simp only[List.length_nil];omega),List.nil_append,gdD (by simp only[List.length_singleton];omega),bindS (sameInts_refl _ _ (by rw[List.length_append,List.length_singleton];omega) (by rw[List.length_append,List.length_singleton];omega)),cond_true]
 rw[bindS (idx_aI (by omega) (by omega)),bindS (resolve_Moved_eq r (aI R 0) (by omega) (by omega)),bindS (idx_aI (by omega) (by omega)),bindS (ref15_Moved_eq r (aI R 0) (by omega) (by omega)),bindS (sameInts_refl _ _ (by omega) (by omega))]
end
end Go.Px
