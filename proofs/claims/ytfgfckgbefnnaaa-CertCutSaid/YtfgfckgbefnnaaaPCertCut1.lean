/- The plain law, in parts: PlanPins, Bound, Bounds, BoundAsks, BoundMost, Prop, PropLaws, Hunt, Search, SearchLaws, Best, Cert, CertMach, CertLaws, CertCut. -/
import Derived.Test.YtfgfckgbefnnaaaPCertCut0
set_option linter.unusedVariables false
set_option linter.unusedSimpArgs false
namespace Go.Px
open Go Go.Sh
section
variable {v:Venue} {L:List Party}
theorem PlanP.pins {P:List Pin} {r:List Int} (h:PlanP v L [] r) (hP:PinOK v L P) (hh:∀i:Nat,i < P.length→aI r (aI P (i:Int)).Party=(aI P (i:Int)).First):PlanP v L P r :=
 ⟨⟨h.inn.1,hP,h.inn.2.2⟩,h.len,fun i hi=>⟨fun f hf=>by
  obtain⟨j,h1,h2,h3⟩:=pinAt_some hf
  have:=hh j h1
  rw[h2] at this
  rw[this,h3],(h.at_ i hi).pl,(h.at_ i hi).ap⟩⟩
theorem PlanP.held {P:List Pin} {r:List Int} (h:PlanP v L P r) {i:Nat} (hi:i < P.length):aI r (aI P (i:Int)).Party=(aI P (i:Int)).First:=by
 have hG:=h.inn.2.1 i hi
 have h1:=hG.lo
 have h2:=hG.hi
 have:=(h.at_ (aI P (i:Int)).Party.toNat (by rw[h.len];omega)).pin (aI P (i:Int)).First
 rw[show(((aI P (i:Int)).Party.toNat:Nat):Int)=(aI P (i:Int)).Party by omega] at this
 exact this (pinAt_get h.inn.2.1.rise hi)
def pinPlan (L:List Party) (P:List Pin):List Int:=(List.range L.length).map (fun i:Nat=>(pinAt P (i:Int)).getD (-1))
theorem pinPlan_at {P:List Pin} {i:Nat} (h:i < L.length):aI (pinPlan L P) (i:Int)=(pinAt P (i:Int)).getD (-1):=by
 unfold aI pinPlan
 rw[Int.toNat_natCast,List.getD_eq_getElem?_getD,List.getElem?_map,List.getElem?_range h]
 rfl
theorem pinPlan_P {k:Nat} (hv:Small k v) {P:List Pin} (hI:InOK v L P):PlanP v L P (pinPlan L P):=by
 have hl:(pinPlan L P).length=L.length:=by unfold pinPlan;simp
 have hP:=hI.2.1
 have hsome:∀i:Nat,i < L.length→¬aI (pinPlan L P) (i:Int) = -1→∃j,j < P.length∧(aI P (j:Int)).Party=(i:Int)∧(aI P (j:Int)).First=aI (pinPlan L P) (i:Int):=fun i hi h=>by
  rw[pinPlan_at hi] at h ⊢
  cases hp:pinAt P (i:Int) with
  | none=>rw[hp] at h;exact absurd rfl h
  | some f=>exact pinAt_some hp
 refine⟨hI,hl,fun i hi=>⟨fun f hf=>?_,fun h=>?_,fun h j hj hn=>?_⟩⟩
 ·rw[pinPlan_at (by omega),hf];rfl
 ·obtain⟨j,h1,h2,h3⟩:=hsome i (by omega) h
  have:=(hP j h1).pl
  rw[h2,h3] at this
  exact this
 ·obtain⟨a,a1,a2,a3⟩:=hsome i (by omega) h
  obtain⟨b,b1,b2,b3⟩:=hsome j (by omega) hn
  have hba:b < a:=by
   rcases Nat.lt_trichotomy b a with h | h | h
   ·exact h
   ·rw[h] at b2;omega
   ·have:=hP.rise a b h b1;omega
  have:=(hP a a1).ap b hba
  rw[a2,a3,b2,b3] at this
  exact this
end
end Go.Px

set_option linter.unusedVariables false
set_option linter.unusedSimpArgs false
namespace Go.Px
open Go Go.Sh
theorem mset_new {l:List (Int×Int)} {x v:Int} : mget l x=none→mset l x v=l++[(x,v)]:=by
 induction l with
 | nil=>intro _;rfl
 | cons p l ih =>
  intro h
  rw[mget_cons] at h
  split at h
  ·cases h
  ·rename_i hne
   rw[mset,if_neg hne,ih h]
   rfl
theorem pmN_mem {P:List Pin} (hP:RiseP P) {p:Int×Int} : ∀ {n:Nat},n≤P.length→(p ∈ pmN P n ↔ ∃i:Nat,i < n∧p=((aI P (i:Int)).Party,(aI P (i:Int)).First))
 | 0,_=>by
  rw[pmN]
  exact⟨fun h=>(by cases h),fun⟨i,h,_⟩=>absurd h (by omega)⟩
 | n+1,hn=>by
  have hnone:mget (pmN P n) (aI P (n:Int)).Party=none:=by
   cases hm:mget (pmN P n) (aI P (n:Int)).Party with
   | none=>rfl
   | some f =>
    obtain⟨i,h1,h2,_⟩:=pmN_some hm
    have:=hP i n h1 (by omega)
    omega
  rw[pmN,mset_new hnone,List.mem_append,pmN_mem hP (by omega),List.mem_singleton]
  constructor
  ·rintro (⟨i,h1,h2⟩ | h)
   ·exact⟨i,by omega,h2⟩
   ·exact⟨n,by omega,h⟩
  ·rintro ⟨i,h1,h2⟩
   rcases Nat.lt_or_ge i n with q | q
   ·exact .inl ⟨i,q,h2⟩
   ·right;rw[h2,show i=n by omega]
structure StateP (v:Venue) (L:List Party) (P:List Pin) (r:List Int):Prop where
 inn:InOK v L P
 len:r.length≤L.length
 at_:∀i,i < r.length→OkAt v L P r i
structure FreeP (v:Venue) (L:List Party) (P:List Pin) (r:List Int) (i:Int) (s:Int):Prop where
 plan:∀j:Nat,j < r.length→¬aI r (j:Int) = -1→aptB v (aI L i) s (aI L (j:Int)) (aI r (j:Int))=true
 pins:∀j:Nat,j < P.length→¬(aI P (j:Int)).Party=i→aptB v (aI L i) s (aI L (aI P (j:Int)).Party) (aI P (j:Int)).First=true
noncomputable def openL (v:Venue) (L:List Party) (P:List Pin) (r:List Int) (i:Int):List Int:=(allV v (aI L i)).filter fun s=>dB (FreeP v L P r i s∧∀f,pinAt P i=some f→s=f)
section
variable {k:Nat} {v:Venue} {L:List Party} {P:List Pin} {r:List Int}
theorem StateP.ge (hv:Small k v) (h:StateP v L P r) {j:Nat} (hj:j < r.length) (hn:¬aI r (j:Int) = -1):0≤aI r (j:Int):=(plB_in hv ((h.at_ j hj).pl hn)).2.2.1
/- the strike-out -/
theorem filter_one {l:List Int} (hl:l.Pairwise (· < ·)) {p:Int→Bool} {f:Int} (hf:f ∈ l) (hp:∀s,p s=true→s=f):l.filter p=if p f=true then [f] else []:=by
 induction l with
 | nil=>cases hf
 | cons x l ih =>
  rw[List.pairwise_cons] at hl
  rw[List.filter_cons]
  rcases List.mem_cons.1 hf with rfl | h
  ·have hn:l.filter p=[]:=List.filter_eq_nil_iff.2 fun s hs h=>by
    have:=hl.1 s hs
    have:=hp s h
    omega
   rw[hn]
  ·have hx:¬p x=true:=fun h'=>by
    have:=hl.1 f h
    have:=hp x h'
    omega
   rw[if_neg hx]
   exact ih hl.2 h
theorem allV_sorted (p:Party):(allV v p).Pairwise (· < ·):=by
 unfold allV
 cases mayB v
 ·exact List.Pairwise.nil
 ·exact allL_sorted _ _ _
end
end Go.Px

set_option linter.unusedVariables false
set_option linter.unusedSimpArgs false
namespace Go.Px
open Go Go.Sh
theorem aI_take {α:Type} [Inhabited α] {l:List α} {n:Nat} {x:Int} (h0:0≤x) (h:x < (n:Int)):aI (l.take n) x=aI l x:=by
 unfold aI
 rw[List.getD_eq_getElem?_getD,List.getD_eq_getElem?_getD,List.getElem?_take_of_lt (by omega)]
section
variable {k:Nat} {v:Venue} {L:List Party} {P:List Pin} {r:List Int}
def NextP (v:Venue) (L:List Party) (P:List Pin) (r:List Int) (x:Int):Prop:=StateP v L P r∧r.length < L.length∧((x = -1∧pinAt P (r.length:Int)=none)∨x ∈ openL v L P r (r.length:Int))
theorem openL_mem (hv:Small k v) {i s:Int} : s ∈ openL v L P r i ↔ plB v (aI L i) s=true∧FreeP v L P r i s∧∀f,pinAt P i=some f→s=f:=by
 unfold openL
 rw[List.mem_filter,allV_mem hv,dB_iff]
theorem openL_ge (hv:Small k v) {i s:Int} (h:s ∈ openL v L P r i):0≤s:=(plB_in hv ((openL_mem hv).1 h).1).2.2.1
theorem openL_len {i:Int} : (openL v L P r i).length≤v.Seats.length:=by
 unfold openL
 have:=List.length_filter_le (fun s=>dB (FreeP v L P r i s∧∀f,pinAt P i=some f→s=f)) (allV v (aI L i))
 have:=allV_len v (aI L i)
 omega
open Classical in
noncomputable def mostN (v:Venue) (L:List Party) (P:List Pin) (r:List Int):Nat→Int
 | 0=>0
 | n+1=>mostN v L P r n+if (n < r.length∧0≤aI r (n:Int))∨(r.length≤n∧0 < (openL v L P r (n:Int)).length) then (aI L (n:Int)).Size else 0
theorem mostN_bd (hA:AllMay L):∀ {n:Nat},n≤L.length→0≤mostN v L P r n∧mostN v L P r n≤8 * n
 | 0,_=>by rw[mostN];omega
 | n+1,h=>by
  have:=mostN_bd hA (n:=n) (by omega)
  have:=hA.2 n (by omega)
  rw[mostN]
  split <;> omega
end
end Go.Px

set_option linter.unusedVariables false
set_option linter.unusedSimpArgs false
namespace Go.Px
open Go Go.Sh
end Go.Px

set_option linter.unusedVariables false
set_option linter.unusedSimpArgs false
namespace Go.Px
open Go Go.Sh
section
variable {k:Nat} {v:Venue} {L:List Party} {P:List Pin} {r:List Int}
theorem PlanP.state (h:PlanP v L P r) {n:Nat} : StateP v L P (r.take n):=by
 have hl:=h.len
 refine⟨h.inn,by rw[List.length_take];omega,fun i hi=>?_⟩
 rw[List.length_take] at hi
 have hG:=h.at_ i (by omega)
 refine⟨fun f hf=>by rw[aI_take (by omega) (by omega)];exact hG.pin f hf,fun hn=>?_,fun hn j hj hnj=>?_⟩
 ·rw[aI_take (by omega) (by omega)] at hn ⊢
  exact hG.pl hn
 ·rw[aI_take (by omega) (by omega)] at hn hnj ⊢
  rw[aI_take (by omega) (by omega)]
  exact hG.ap hn j hj hnj
theorem PlanP.open (hv:Small k v) (h:PlanP v L P r) {n i:Nat} (hn:n≤i) (hi:i < L.length) (h1:¬aI r (i:Int) = -1):aI r (i:Int) ∈ openL v L P (r.take n) (i:Int):=by
 have hl:=h.len
 have hG:=h.at_ i (by omega)
 refine(openL_mem hv).2 ⟨hG.pl h1,⟨fun j hj hnj=>?_,fun j hj hne=>?_⟩,hG.pin⟩
 ·rw[List.length_take] at hj
  rw[aI_take (by omega) (by omega)] at hnj ⊢
  exact hG.ap h1 j (by omega) hnj
 ·have hPG:=h.inn.2.1 j hj
  have hh:=h.held hj
  have h0:=hPG.lo
  have h2:=hPG.hi
  have h3:=(plB_in hv hPG.pl).2.2.1
  obtain⟨x,hx⟩:=Int.eq_ofNat_of_zero_le h0
  have hx:(aI P (j:Int)).Party=(x:Int):=hx
  rw[hx] at hh hne h2 ⊢
  rw[← hh] at h3 ⊢
  rcases Nat.lt_or_ge x i with q | q
  ·exact hG.ap h1 x q (by omega)
  ·rw[aptB_symm]
   exact(h.at_ x (by omega)).ap (by omega) i (by omega) h1
theorem PlanP.next (hv:Small k v) (h:PlanP v L P r) {i:Nat} (hi:i < L.length):NextP v L P (r.take i) (aI r (i:Int)):=by
 have hl:=h.len
 have ht:(r.take i).length=i:=by rw[List.length_take];omega
 refine⟨h.state,by omega,?_⟩
 rw[ht]
 by_cases h1:aI r (i:Int) = -1
 ·refine .inl ⟨h1,?_⟩
  cases hp:pinAt P (i:Int) with
  | none=>rfl
  | some f =>
   have:=(h.at_ i (by omega)).pin f hp
   obtain⟨j,hj,e1,e2⟩:=pinAt_some hp
   have:=(plB_in hv (h.inn.2.1 j hj).pl).2.2.1
   omega
 ·exact .inr (h.open hv (Nat.le_refl i) hi h1)
theorem most_full (hl:r.length=L.length):∀m:Nat,m≤L.length→mostN v L P r m=seatN L r m
 | 0,_=>rfl
 | m+1,hm=>by
  rw[mostN,seatN,most_full hl m (by omega)]
  by_cases h:0≤aI r (m:Int)
  ·rw[if_pos h,if_pos (.inl ⟨by omega,h⟩)]
  ·rw[if_neg h,if_neg (fun x=>by rcases x with x | x;exact h x.2;omega)]
structure BCtx (v:Venue) (L:List Party) (P:List Pin):Prop where
 pr:Prob v L
 l4:P.length≤4
 ok:PinOK v L P
theorem BCtx.small (h:BCtx v L P):Small 20000 v:=h.pr.small (by omega) (by omega)
theorem StateP.ok (hv:Small k v) (h:StateP v L P r):∀i:Nat,i < r.length→okI (aI r (i:Int)):=fun i hi=>by
 by_cases h1:aI r (i:Int) = -1
 ·rw[h1];exact⟨by omega,by omega⟩
 ·obtain⟨_,h1,h2,h3⟩:=plB_in hv ((h.at_ i hi).pl h1)
  have:=hv.hs
  have:=hv.b
  exact⟨by omega,by omega⟩
end
end Go.Px

set_option linter.unusedVariables false
set_option linter.unusedSimpArgs false
namespace Go.Px
open Go Go.Sh
noncomputable def domL (v:Venue) (L:List Party) (P:List Pin) (r:List Int) (i:Nat):List Int:=if i < r.length then (if aI r (i:Int) = -1 then [] else [aI r (i:Int)]) else openL v L P r (i:Int)
noncomputable def lvl (v:Venue) (L:List Party) (P:List Pin) (r:List Int):List (List Int):=(List.range L.length).map (domL v L P r)
noncomputable def lvsL (v:Venue) (L:List Party) (P:List Pin) (r:List Int):List (List (List Int)):=(List.range (r.length+1)).map (fun m=>lvl v L P (r.take m))
noncomputable def setOf (v:Venue) (L:List Party) (P:List Pin):PlanSet:=PlanSet.mk (PlaceHall.mk v (usL v)) L (pmN P P.length)
noncomputable def mkP (v:Venue) (L:List Party) (P:List Pin) (r:List Int):PropProp:=PropProp.mk (setOf v L P) (lvsL v L P r) r
theorem map_range_at {α:Type} [Inhabited α] {f:Nat → α} {n i:Nat} (h:i < n):aI ((List.range n).map f) (i:Int)=f i:=by
 unfold aI
 rw[Int.toNat_natCast,List.getD_eq_getElem?_getD,List.getElem?_map,List.getElem?_range h]
 rfl
section
variable {k:Nat} {v:Venue} {L:List Party} {P:List Pin} {r:List Int}
theorem lvl_len:(lvl v L P r).length=L.length:=by unfold lvl;simp
theorem lvl_at {i:Nat} (h:i < L.length):aI (lvl v L P r) (i:Int)=domL v L P r i:=map_range_at h
theorem lvsL_len:(lvsL v L P r).length=r.length+1:=by unfold lvsL;simp
theorem lvsL_at {m:Nat} (h:m≤r.length):aI (lvsL v L P r) (m:Int)=lvl v L P (r.take m):=map_range_at (by omega)
theorem lvsL_snoc {x:Int} : lvsL v L P (r++[x])=lvsL v L P r++[lvl v L P (r++[x])]:=by
 unfold lvsL
 rw[List.length_append,List.length_singleton,List.range_succ,List.map_append]
 congr 1
 ·refine List.map_congr_left fun m hm=>?_
  have:=List.mem_range.1 hm
  rw[List.take_append_of_le_length (by omega)]
 ·simp only[List.map_cons,List.map_nil]
  rw[List.take_of_length_le (by simp)]
theorem domL_pl (hv:Small k v) (hst:StateP v L P r) {i:Nat} (hi:i < L.length) {s:Int} (h:s ∈ domL v L P r i):plB v (aI L (i:Int)) s=true:=by
 unfold domL at h
 split at h
 ·rename_i hir
  split at h
  ·cases h
  ·rename_i hn
   rw[List.mem_singleton] at h
   rw[h]
   exact(hst.at_ i hir).pl hn
 ·exact((openL_mem hv).1 h).1
theorem domL_len {i:Nat} (hn:1≤v.Seats.length):(domL v L P r i).length≤v.Seats.length:=by
 unfold domL
 split
 ·split
  ·simp
  ·simp;omega
 ·exact openL_len
theorem prop_apart_eq (hv:Small k v) (hM:MayV v) (hk:1000 < k) {M:List (Int×Int)} {l:List Int} {i j f:Int} (hi:0≤i∧i < L.length) (hj:0≤j∧j < L.length) (hl:l.length < k) (hs:∀s,s ∈ l→plB v (aI L i) s=true) (hf:plB v (aI L j) f=true) :
  prop_apart k (PlanSet.mk (PlaceHall.mk v (usL v)) L M) l i j f=some (l.filter (fun s=>aptB v (aI L i) s (aI L j) f)):=by
 have hb:=hv.b
 unfold prop_apart
 have e2:=gather0 (f:=fun n a q=>prop_apart_l0 k (PlanSet.mk (PlaceHall.mk v (usL v)) L M) l i j f n a q) (len:=l.length) (c:=0) (fun q:Nat=>aptB v (aI L i) (aI l (q:Int)) (aI L j) f) (fun q:Nat=>aI l (q:Int))
  (fun n q w hq hw=>by
   show prop_apart_l0 k (PlanSet.mk (PlaceHall.mk v (usL v)) L M) l i j f (n+1) w (q:Int)=prop_apart_l0 k (PlanSet.mk (PlaceHall.mk v (usL v)) L M) l i j f n _ _
   rw[prop_apart_l0]
   simp only
   rw[condD (by omega),bindS (idx_aI (by omega) (by omega)),bindS (idx_aI hi.1 hi.2),bindS (idx_aI hj.1 hj.2),bindS (hall_Apart hv hM hk (hs _ (aI_mem (by omega) (by omega))) hf),wr_succ (by omega)]
   cases aptB v (aI L i) (aI l (q:Int)) (aI L j) f
   ·rw[cond_false,if_neg (by simp)]
   ·rw[cond_true,gdD (by simp only[List.length_singleton];omega),if_pos rfl])
  (fun n w=>by show prop_apart_l0 k (PlanSet.mk (PlaceHall.mk v (usL v)) L M) l i j f (n+1) w _=_;rw[prop_apart_l0,condN (by omega)])
  (k:=k) hl [] (by simp)
 have e2:prop_apart_l0 k (PlanSet.mk (PlaceHall.mk v (usL v)) L M) l i j f k [] 0=_:=e2
 rw[bindS e2,List.nil_append]
 congr 1
 have h2:((List.range l.length).map (fun j:Nat=>aI l (j:Int)))=l:=by rw[range_map_aI (l:=l) (f:=fun s=>s),List.map_id']
 have h3:∀(p:Int→Bool) (R:List Nat),(R.filter (fun j:Nat=>p (aI l (j:Int)))).map (fun j:Nat=>aI l (j:Int))=(R.map (fun j:Nat=>aI l (j:Int))).filter p:=fun p R=>by
  rw[List.filter_map]
  rfl
 rw[h3 (fun s=>aptB v (aI L i) s (aI L j) f),h2]
theorem mrun_set {i:Nat} {w:List (List Int)} {good:Int×Int→Int→Bool} {step:Int×Int→List (List Int)→Option (Ex (List (List Int)) (List (List Int)))} {fin:List (List Int)→Option (List (List Int))} (hf:∀u,fin u=some u) {A0:List Int} :
  ∀(σ:List (Int×Int)) (A:List Int),(∀s,s ∈ A→s ∈ A0)→A.length≤A0.length→(∀p,p ∈ σ→∀B:List Int,(∀s,s ∈ B→s ∈ A0)→B.length≤A0.length→step p (w.set i B)=some (.go (w.set i (B.filter (good p)))))→mrun step fin σ (w.set i A)=some (w.set i (A.filter fun s => σ.all fun p=>good p s))
 | [],A,_,_,_=>by
  rw[mrun,hf]
  congr 2
  exact(List.filter_eq_self.2 fun _ _=>rfl).symm
 | p :: σ,A,hA,hl,h=>by
  rw[mrun,h p (by simp) A hA hl]
  have hl2:=List.length_filter_le (good p) A
  have ih:=mrun_set hf σ (A.filter (good p)) (fun s hs=>hA s (List.mem_filter.1 hs).1) (by omega) (fun q hq=>h q (by simp [hq]))
  show mrun step fin σ (w.set i (A.filter (good p)))=_
  rw[ih,List.filter_filter]
  congr 2
  refine List.filter_congr fun s _=>?_
  rw[List.all_cons,Bool.and_comm]
theorem prop_New_l2_eq (hv:Small k v) (hk:1000 < k) (hI:InOK v L P) (hL:L.length < k) {b:Bool} : prop_New_l2 k L (setOf v L P,b) k (List.replicate L.length []) 0=some (lvl v L P []):=by
 have hb:=hv.b
 have hM:=hI.1
 have hN:=hv.hs
 have hlen:=hI.2.2.1
 have e:=fill0 (f:=fun n w i=>prop_New_l2 k L (setOf v L P,b) n w i) (len:=L.length) (domL v L P [])
  (fun n i w hi hw=>by
   show prop_New_l2 k L (setOf v L P,b) (n+1) w (i:Int)=prop_New_l2 k L (setOf v L P,b) n _ _
   have hmg:mget (setOf v L P).Pins (i:Int)=pinAt P (i:Int):=rfl
   have hdom:domL v L P [] i=openL v L P [] (i:Int):=by unfold domL;rw[if_neg (by simp)]
   rw[prop_New_l2]
   simp only
   rw[condD (by omega),hmg,wr_succ (by omega),hdom,Int.toNat_natCast]
   cases hp:pinAt P (i:Int) with
   | some f =>
    obtain⟨j,hj,h1,h2⟩:=pinAt_some hp
    have hG:=hI.2.1 j hj
    have hpl:=hG.pl
    rw[h1,h2] at hpl
    have hmem:f ∈ openL v L P [] (i:Int):=(openL_mem hv).2 ⟨hpl,⟨fun q hq=>absurd hq (by simp),fun q hq hne=>by
     rcases Nat.lt_trichotomy q j with x | x | x
     ·have:=hG.ap q x
      rw[h1,h2] at this
      exact this
     ·subst x;exact absurd h1 hne
     ·have:=(hI.2.1 q hq).ap j x
      rw[h1,h2,aptB_symm] at this
      exact this⟩,fun f' e=>by rw[hp] at e;cases e;rfl⟩
    have hone:openL v L P [] (i:Int)=[f]:=by
     have h:=(openL_mem hv).1 hmem
     unfold openL
     rw[filter_one (allV_sorted _) (f:=f) ((allV_mem hv).2 hpl) (fun s hs=>(dB_iff.1 hs).2 f hp),if_pos (dB_T ⟨h.2.1,h.2.2⟩)]
    rw[Option.isSome_some,cond_true,bindS (idx_aI (l:=w) (by omega) (by omega)),Option.getD_some,hone]
   | none =>
    have hall:place_Hall_All k (setOf v L P).H (aI L (i:Int))=some (allV v (aI L (i:Int))):=by
     rw[show(setOf v L P).H=PlaceHall.mk v (usL v) from rfl,place_Hall_All_eq _ hv.hs hb hk]
     unfold allV
     rw[mayB_iff.2 hM]
     rfl
    have hal:=allV_len v (aI L (i:Int))
    rw[Option.isSome_none,cond_false,bindS (idx_aI (l:=L) (by omega) (by omega)),bindS hall,bindS (idx_aI (l:=w) (by omega) (by omega))]
    have hst:∀p,p ∈ pmN P P.length→∀B:List Int,(∀s,s ∈ B→s ∈ allV v (aI L (i:Int)))→B.length≤(allV v (aI L (i:Int))).length→prop_New_l3_st k (setOf v L P,b) (i:Int) p (w.set i B)=some (.go (w.set i (B.filter (fun s=>aptB v (aI L (i:Int)) s (aI L p.1) p.2)))):=fun p hp' B hB hBl=>by
     obtain⟨j,hj,rfl⟩:=(pmN_mem hI.2.1.rise (Nat.le_refl _)).1 hp'
     have hG:=hI.2.1 j hj
     have hg:idx (w.set i B) (i:Int)=some B:=by
      rw[idx_aI (by omega) (by rw[List.length_set];omega),aI_set (by omega),if_pos rfl]
     unfold prop_New_l3_st
     have ea:prop_apart k (setOf v L P) B (i:Int) (aI P (j:Int)).Party (aI P (j:Int)).First=_:=prop_apart_eq (M:=pmN P P.length) hv hM hk ⟨by omega,by omega⟩ ⟨hG.lo,hG.hi⟩ (by omega) (fun s hs=>(allV_mem hv).1 (hB s hs)) hG.pl
     simp only
     rw[bindS hg,bindS ea,bindS hg,Int.toNat_natCast,List.set_set]
    have hmr:prop_New_l3 k (setOf v L P,b) (i:Int) (setOf v L P).Pins (w.set i (allV v (aI L (i:Int))))=some (w.set i (openL v L P [] (i:Int))):=by
     unfold prop_New_l3
     refine mrange_of fun τ hτ=>?_
     refine(mrun_set (step:=fun p u=>prop_New_l3_st k (setOf v L P,b) (i:Int) p u) (fin:=fun u=>prop_New_l3_fin k (setOf v L P,b) (i:Int) u) (fun u=>rfl) τ (allV v (aI L (i:Int))) (fun s h=>h) (Nat.le_refl _) (fun p hp'=>hst p (hτ.mem_iff.1 hp'))).trans ?_
     congr 2
     unfold openL
     refine List.filter_congr fun s hs=>?_
     rw[Bool.eq_iff_iff,List.all_eq_true,dB_iff]
     constructor
     ·intro h
      refine⟨⟨fun q hq=>absurd hq (by simp),fun q hq hne=>?_⟩,fun f e=>by rw[hp] at e;cases e⟩
      exact h ((aI P (q:Int)).Party,(aI P (q:Int)).First) (hτ.mem_iff.2 ((pmN_mem hI.2.1.rise (Nat.le_refl _)).2 ⟨q,hq,rfl⟩))
     ·intro h p hp'
      obtain⟨j,hj,rfl⟩:=(pmN_mem hI.2.1.rise (Nat.le_refl _)).1 (hτ.mem_iff.1 hp')
      refine h.1.pins j hj fun e=>?_
      have:=pinAt_get hI.2.1.rise hj
      rw[e,hp] at this
      cases this
    rw[bindS hmr])
  (fun n w hw=>by show prop_New_l2 k L (setOf v L P,b) (n+1) w _=_;rw[prop_New_l2,condN (by omega)])
  (k:=k) hL (List.replicate L.length []) (by simp)
 exact e
theorem prop_New_eq (hv:Small k v) (hk:1000 < k) (hL:L.length < k) (hP:P.length < k) (ho:∀i:Nat,i < P.length→okI (aI P (i:Int)).First):prop_New k v L P=some (if dB (InOK v L P)=true then (some (mkP v L P []),0) else (none,1)):=by
 have hb:=hv.b
 obtain⟨S,e,hS⟩:=plan_In_eq hv hk hL hP ho
 unfold prop_New
 rw[bindS e]
 rcases Classical.em (InOK v L P) with h | h
 ·have e2:=prop_New_l2_eq (b:=true) hv hk h hL
  rw[dB_T h,cNT,hS h,gdD (by omega),Int.toNat_natCast,if_pos rfl]
  have e2:prop_New_l2 k L (PlanSet.mk (PlaceHall.mk v (usL v)) L (pmN P P.length),true) k (List.replicate L.length []) 0=_:=e2
  rw[bindS e2]
  rfl
 ·rw[dB_F h,cNF,if_neg (by simp)]
theorem prop_now_eq (hr:r.length≤1000):prop_Prop_now k (mkP v L P r)=some (lvl v L P r):=by
 unfold prop_Prop_now mkP
 simp only
 have hl:(lvsL v L P r).length=r.length+1:=lvsL_len
 rw[hl,show wr (((r.length+1:Nat):Int)-1)=(r.length:Int) by rw[wr_id (by omega) (by omega)];omega,bindS (idx_aI (by omega) (by omega)),lvsL_at (Nat.le_refl _),List.take_length]
theorem prop_has_eq (i:Int):prop_Prop_has k (mkP v L P r) i=some (decide (0≤i∧i < L.length)):=by
 unfold prop_Prop_has
 by_cases h:i < 0
 ·rw[condD h,decide_eq_false (by omega)]
 ·rw[condN h]
  congr 1
  rw[decide_eq_decide]
  show i < ((setOf v L P).L.length:Int) ↔ _
  have:(setOf v L P).L=L:=rfl
  rw[this]
  omega
theorem prop_Depth_eq:prop_Prop_Depth k (mkP v L P r)=some (r.length:Int):=rfl
theorem prop_Pinned_eq {i:Nat} (h:i < L.length):prop_Prop_Pinned k (mkP v L P r) (i:Int)=some ((pinAt P (i:Int)).isSome):=by
 unfold prop_Prop_Pinned
 rw[bindS (prop_has_eq _),decide_eq_true (by omega),cNT]
 rfl
theorem domL_next (hv:Small k v) {x:Int} {j:Nat} (h:NextP v L P r x) (hj:r.length < j):domL v L P (r++[x]) j=if x = -1 then domL v L P r j else (domL v L P r j).filter (fun s=>aptB v (aI L (j:Int)) s (aI L (r.length:Int)) x):=by
 have hl:(r++[x]).length=r.length+1:=by simp
 have d1:domL v L P (r++[x]) j=openL v L P (r++[x]) (j:Int):=by unfold domL;rw[if_neg (by omega)]
 have d2:domL v L P r j=openL v L P r (j:Int):=by unfold domL;rw[if_neg (by omega)]
 rw[d1,d2]
 have hfree:∀s,FreeP v L P (r++[x]) (j:Int) s ↔ FreeP v L P r (j:Int) s∧(¬x = -1→aptB v (aI L (j:Int)) s (aI L (r.length:Int)) x=true):=fun s=>by
  constructor
  ·intro hf
   refine⟨⟨fun q hq hn=>?_,hf.pins⟩,fun hn=>?_⟩
   ·have:=hf.plan q (by omega)
    rw[aI_lt hq] at this
    exact this hn
   ·have:=hf.plan r.length (by omega)
    rw[aI_last rfl] at this
    exact this hn
  ·rintro ⟨a,b⟩
   refine⟨fun q hq hn=>?_,a.pins⟩
   by_cases hqr:q < r.length
   ·rw[aI_lt hqr] at hn ⊢
    exact a.plan q hqr hn
   ·obtain rfl:q=r.length:=by omega
    rw[aI_last rfl] at hn ⊢
    exact b hn
 unfold openL
 split
 ·rename_i hx
  refine List.filter_congr fun s _=>?_
  rw[Bool.eq_iff_iff,dB_iff,dB_iff,hfree s]
  exact⟨fun a=>⟨a.1.1,a.2⟩,fun a=>⟨⟨a.1,fun hn=>absurd hx hn⟩,a.2⟩⟩
 ·rename_i hx
  rw[List.filter_filter]
  refine List.filter_congr fun s _=>?_
  rw[Bool.eq_iff_iff,Bool.and_eq_true,dB_iff,dB_iff,hfree s]
  exact⟨fun a=>⟨a.1.2 hx,a.1.1,a.2⟩,fun a=>⟨⟨a.2.1,fun _=>a.1⟩,a.2.2⟩⟩
theorem NextP.state (hv:Small k v) {x:Int} (h:NextP v L P r x):StateP v L P (r++[x]):=by
 have hl:(r++[x]).length=r.length+1:=by simp
 refine⟨h.1.inn,by have:=h.2.1;omega,fun i hi=>?_⟩
 by_cases hir:i < r.length
 ·have hG:=h.1.at_ i hir
  refine⟨fun f hf=>by rw[aI_lt hir];exact hG.pin f hf,fun hn=>?_,fun hn j hj hnj=>?_⟩
  ·rw[aI_lt hir] at hn ⊢
   exact hG.pl hn
  ·rw[aI_lt hir] at hn ⊢
   rw[aI_lt (by omega)] at hnj ⊢
   exact hG.ap hn j hj hnj
 ·obtain rfl:i=r.length:=by omega
  rcases h.2.2 with⟨hx,hp⟩ | ho
  ·refine⟨fun f hf=>(by rw[hp] at hf;cases hf),fun hn=>?_,fun hn=>?_⟩
   ·rw[aI_last rfl] at hn;exact absurd hx hn
   ·rw[aI_last rfl] at hn;exact absurd hx hn
  ·obtain⟨h1,h2,h3⟩:=(openL_mem hv).1 ho
   refine⟨fun f hf=>by rw[aI_last rfl];exact h3 f hf,fun hn=>?_,fun hn j hj hnj=>?_⟩
   ·rw[aI_last rfl];exact h1
   ·rw[aI_last rfl]
    rw[aI_lt hj] at hnj ⊢
    exact h2.plan j hj hnj
theorem domL_lt {x:Int} {i:Nat} (h:i < r.length):domL v L P (r++[x]) i=domL v L P r i:=by
 have hl:(r++[x]).length=r.length+1:=by simp
 unfold domL
 rw[if_pos (by omega),if_pos h,aI_lt h]
theorem domL_last {x:Int} : domL v L P (r++[x]) r.length=if x = -1 then [] else [x]:=by
 have hl:(r++[x]).length=r.length+1:=by simp
 unfold domL
 rw[if_pos (by omega),aI_last rfl]
noncomputable def midL (v:Venue) (L:List Party) (P:List Pin) (r:List Int) (x:Int) (j:Nat):List (List Int):=(List.range L.length).map (fun i=>if i < j then domL v L P (r++[x]) i else domL v L P r i)
theorem midL_len {x:Int} {j:Nat} : (midL v L P r x j).length=L.length:=by unfold midL;simp
theorem midL_at {x:Int} {j i:Nat} (h:i < L.length):aI (midL v L P r x j) (i:Int)=if i < j then domL v L P (r++[x]) i else domL v L P r i:=map_range_at h
theorem push_l0 (hv:Small k v) (hk:1000 < k) {x:Int} (h:NextP v L P r x) (hx:¬x = -1):∀(d n j:Nat),j+d=L.length→d < n→r.length < j→prop_Prop_Push_l0 k (mkP v L P r) x (r.length:Int) n (midL v L P r x j) (j:Int)=some (lvl v L P (r++[x]))
 | d,0,j,_,hd,_=>absurd hd (by omega)
 | 0,n+1,j,hj,_,_=>by
  have hml:(midL v L P r x j).length=L.length:=midL_len
  rw[prop_Prop_Push_l0,condN (by omega)]
  congr 1
  refine aI_ext (by rw[midL_len,lvl_len]) fun i hi=>?_
  rw[midL_len] at hi
  rw[midL_at hi,lvl_at hi,if_pos (by omega)]
 | d+1,n+1,j,hj,hd,hr=>by
  have hb:=hv.b
  have hN:=hv.hs
  have hst:=h.1
  have hlen:=hst.inn.2.2.1
  have hml:(midL v L P r x j).length=L.length:=midL_len
  have hmj:aI (midL v L P r x j) (j:Int)=domL v L P r j:=by rw[midL_at (by omega),if_neg (by omega)]
  have hdl:=domL_len (v:=v) (L:=L) (P:=P) (r:=r) (i:=j) hst.inn.1.n0
  have hxo:x ∈ openL v L P r (r.length:Int):=by
   rcases h.2.2 with y | y
   ·exact absurd y.1 hx
   ·exact y
  have hxpl:=((openL_mem hv).1 hxo).1
  have ea:prop_apart k (mkP v L P r).s (domL v L P r j) (j:Int) (r.length:Int) x=_:=prop_apart_eq (M:=pmN P P.length) (L:=L) hv hst.inn.1 hk ⟨by omega,by omega⟩ ⟨by omega,by omega⟩ (by omega) (fun s hs=>domL_pl hv hst (by omega) hs) hxpl
  have hn:=domL_next (j:=j) hv h hr
  rw[if_neg hx] at hn
  rw[← hn] at ea
  rw[prop_Prop_Push_l0,condD (by omega),bindS (idx_aI (by omega) (by omega)),hmj,bindS ea,bindS (idx_aI (by omega) (by omega)),Int.toNat_natCast,wr_succ (by omega)]
  have e2:(midL v L P r x j).set j (domL v L P (r++[x]) j)=midL v L P r x (j+1):=by
   refine aI_ext (by rw[List.length_set,midL_len,midL_len]) fun i hi=>?_
   rw[List.length_set,midL_len] at hi
   rw[aI_set (by omega),midL_at hi,midL_at hi]
   by_cases hij:i=j
   ·subst hij
    rw[if_pos rfl,if_pos (by omega)]
   ·rw[if_neg hij]
    by_cases hlt:i < j
    ·rw[if_pos hlt,if_pos (by omega)]
    ·rw[if_neg hlt,if_neg (by omega)]
  rw[e2]
  exact push_l0 hv hk h hx d n (j+1) (by omega) (by omega) (by omega)
theorem prop_Push_eq (hv:Small k v) (hk:1000 < k) (hst:StateP v L P r) (x:Int):prop_Prop_Push k (mkP v L P r) x=some (if dB (NextP v L P r x)=true then (true,lvsL v L P (r++[x]),r++[x]) else (false,lvsL v L P r,r)):=by
 have hb:=hv.b
 have hM:=hst.inn.1
 have hN:=hv.hs
 have hlen:=hst.inn.2.2.1
 have hrl:=hst.len
 have hlv:(mkP v L P r).levels.length=r.length+1:=lvsL_len
 unfold prop_Prop_Push
 rw[bindS prop_Depth_eq,bindS (prop_has_eq _)]
 by_cases hnn:¬r.length < L.length
 ·rw[decide_eq_false (by omega),cNF,bindS rfl,cond_true,dB_F (fun y=>hnn y.2.1),if_neg (by simp)]
  rfl
 have hn:=Classical.not_not.1 hnn
 have hlvn:(lvl v L P r).length=L.length:=lvl_len
 have hdn:aI (lvl v L P r) (r.length:Int)=openL v L P r (r.length:Int):=by
  rw[lvl_at hn]
  unfold domL
  rw[if_neg (Nat.lt_irrefl _)]
 have hol:=openL_len (v:=v) (L:=L) (P:=P) (r:=r) (i:=(r.length:Int))
 rw[decide_eq_true ⟨by omega,by omega⟩,cNT,bindS (prop_Pinned_eq hn),bindS (prop_now_eq (by omega)),bindS (idx_aI (l:=lvl v L P r) (by omega) (by omega)),hdn,bindS (slices_Contains_int_eq k _ x (by omega) (by omega))]
 have hcl:slices_Clone_Lint k (lvl v L P r)=some (lvl v L P r):=by
  unfold slices_Clone_Lint
  rw[gdD (by simp only[List.length_nil];omega),List.nil_append]
 have hset:(lvl v L P r).set r.length []=(lvl v L P r).set r.length []:=rfl
 by_cases h1:x = -1
 ·rw[condD h1]
  cases hp:pinAt P (r.length:Int) with
  | some f =>
   rw[Option.isSome_some,cond_true,bindS rfl,cond_true,dB_F (fun y=>by
    rcases y.2.2 with⟨_,q⟩ | q
    ·rw[hp] at q;cases q
    ·have:=openL_ge hv q;omega),if_neg (by simp)]
   rfl
  | none =>
   have hnx:NextP v L P r x:=⟨hst,hn,.inl ⟨h1,hp⟩⟩
   have e2:(lvl v L P r).set r.length []=lvl v L P (r++[x]):=by
    refine aI_ext (by rw[List.length_set,lvl_len,lvl_len]) fun i hi=>?_
    rw[List.length_set,lvl_len] at hi
    rw[aI_set (by omega),lvl_at hi,lvl_at hi]
    by_cases hij:i=r.length
    ·rw[if_pos hij,hij,domL_last,if_pos h1]
    ·rw[if_neg hij]
     by_cases hlt:i < r.length
     ·rw[domL_lt hlt]
     ·rw[domL_next hv hnx (by omega),if_pos h1]
   rw[Option.isSome_none,cond_false,condNT h1,bindS rfl,cond_false,bindS (prop_now_eq (by omega)),bindS hcl,bindS (idx_aI (l:=lvl v L P r) (by omega) (by omega)),condNT h1,Int.toNat_natCast,e2,gdD (by simp only[List.length_singleton];omega),gdD (by show r.length+_≤_;simp only[List.length_singleton];omega),dB_T hnx,if_pos rfl,lvsL_snoc]
   rfl
 ·rw[condN h1,condNF h1,bindS rfl]
  by_cases h2:x ∈ openL v L P r (r.length:Int)
  ·have hnx:NextP v L P r x:=⟨hst,hn,.inr h2⟩
   have e2:((lvl v L P r).set r.length []).set r.length [x]=midL v L P r x (r.length+1):=by
    rw[List.set_set]
    refine aI_ext (by rw[List.length_set,lvl_len,midL_len]) fun i hi=>?_
    rw[List.length_set,lvl_len] at hi
    rw[aI_set (by omega),lvl_at hi,midL_at hi]
    by_cases hij:i=r.length
    ·rw[if_pos hij,if_pos (by omega),hij,domL_last,if_neg h1]
    ·rw[if_neg hij]
     by_cases hlt:i < r.length
     ·rw[if_pos (by omega),domL_lt hlt]
     ·rw[if_neg (by omega)]
   have el:=push_l0 hv hk hnx h1 (L.length-(r.length+1)) k (r.length+1) (by omega) (by omega) (by omega)
   rw[decide_eq_true h2,Bool.not_true,cond_false,bindS (prop_now_eq (by omega)),bindS hcl,bindS (idx_aI (l:=lvl v L P r) (by omega) (by omega)),condNF h1,Int.toNat_natCast,bindS (idx_aI (l:=(lvl v L P r).set r.length []) (by omega) (by rw[List.length_set];omega)),e2,wr_succ (by omega),bindS el,gdD (by simp only[List.length_singleton];omega),gdD (by show r.length+_≤_;simp only[List.length_singleton];omega),dB_T hnx,if_pos rfl,lvsL_snoc]
   rfl
  ·rw[decide_eq_false h2,Bool.not_false,cond_true,dB_F (fun y=>by
    rcases y.2.2 with q | q
    ·exact h1 q.1
    ·exact h2 q),if_neg (by simp)]
   rfl
end
end Go.Px

set_option linter.unusedVariables false
set_option linter.unusedSimpArgs false
namespace Go.Px
open Go Go.Sh
section
variable {k:Nat} {v:Venue} {L:List Party} {P:List Pin} {r:List Int}
theorem domL_pos {m:Nat} (hv:Small k v) (hst:StateP v L P r):(0 < (domL v L P r m).length) ↔ ((m < r.length∧0≤aI r (m:Int))∨(r.length≤m∧0 < (openL v L P r (m:Int)).length)):=by
 unfold domL
 by_cases h:m < r.length
 ·rw[if_pos h]
  by_cases h1:aI r (m:Int) = -1
  ·rw[if_pos h1]
   constructor
   ·intro x;exact absurd x (by simp)
   ·rintro (x | x)
    ·omega
    ·omega
  ·rw[if_neg h1]
   have:=hst.ge hv h h1
   exact⟨fun _ => .inl ⟨h,this⟩,fun _=>by simp⟩
 ·rw[if_neg h]
  exact⟨fun x => .inr ⟨by omega,x⟩,fun x=>by rcases x with x | x;exact absurd x.1 h;exact x.2⟩
theorem prop_Most_l0_eq (hv:Small k v) (hst:StateP v L P r):∀(d n i:Nat),i+d=L.length→d < n→prop_Prop_Most_l0 k (mkP v L P r) (lvl v L P r) n (mostN v L P r i) (i:Int)=some (mostN v L P r L.length)
 | d,0,i,_,h=>absurd h (by omega)
 | 0,n+1,i,hi,_=>by
  have hl:(lvl v L P r).length=L.length:=lvl_len
  rw[prop_Prop_Most_l0,condN (by omega),show i=L.length by omega]
 | d+1,n+1,i,hi,hd=>by
  have hl:(lvl v L P r).length=L.length:=lvl_len
  have hA:=hst.inn.2.2
  have h1:=hA.1
  have h2:=hA.2 i (by omega)
  have h3:=mostN_bd (v:=v) (P:=P) (r:=r) hA (n:=i) (by omega)
  have ih:=prop_Most_l0_eq hv hst d n (i+1) (by omega) (by omega)
  have hx:idx (mkP v L P r).s.L (i:Int)=some (aI L (i:Int)):=idx_aI (l:=L) (by omega) (by omega)
  rw[mostN] at ih
  rw[prop_Prop_Most_l0,condD (by omega),bindS (idx_aI (by omega) (by omega)),lvl_at (by omega),wr_succ (by omega)]
  by_cases h:0 < (domL v L P r i).length
  ·rw[if_pos ((domL_pos hv hst).1 h)] at ih
   rw[condD (by omega),bindS hx,wr_id (by omega) (by omega),ih]
  ·rw[if_neg (fun x=>h ((domL_pos hv hst).2 x)),Int.add_zero] at ih
   rw[condN (by omega),ih]
theorem prop_Most_eq (hv:Small k v) (hk:1000 < k) (hst:StateP v L P r):prop_Prop_Most k (mkP v L P r)=some (mostN v L P r L.length):=by
 have h1:=hst.inn.2.2.1
 have h2:=hst.len
 unfold prop_Prop_Most
 have e:=prop_Most_l0_eq hv hst L.length k 0 (by omega) (by omega)
 have e:prop_Prop_Most_l0 k (mkP v L P r) (lvl v L P r) k 0 0=_:=e
 rw[bindS (prop_now_eq (by omega)),bindS e]
theorem prop_Domain_eq (hst:StateP v L P r) (i:Int):prop_Prop_Domain k (mkP v L P r) i=some (if 0≤i∧i < L.length then domL v L P r i.toNat else []):=by
 have h1:=hst.inn.2.2.1
 have h2:=hst.len
 have hM:=hst.inn.1
 have hn1:=hM.n1
 unfold prop_Prop_Domain
 rw[bindS (prop_has_eq _)]
 by_cases h:0≤i∧i < L.length
 ·have hl:(lvl v L P r).length=L.length:=lvl_len
  have b:=domL_len (v:=v) (L:=L) (P:=P) (r:=r) (i:=i.toNat) hM.n0
  have hat:aI (lvl v L P r) i=domL v L P r i.toNat:=by
   have:=lvl_at (v:=v) (L:=L) (P:=P) (r:=r) (i:=i.toNat) (by omega)
   rw[show((i.toNat:Nat):Int)=i by omega] at this
   exact this
  rw[decide_eq_true h,cNT,bindS (prop_now_eq (by omega)),bindS (idx_aI (by omega) (by omega)),hat,if_pos h]
  unfold slices_Clone_int
  rw[gdD (by simp only[List.length_nil];omega),List.nil_append]
  rfl
 ·rw[decide_eq_false h,cNF,if_neg h]
  rfl
theorem prop_Plan_eq (hr:r.length≤1000):prop_Prop_Plan k (mkP v L P r)=some r:=by
 unfold prop_Prop_Plan slices_Clone_Plan_int
 have:(mkP v L P r).p=r:=rfl
 rw[this,gdD (by simp only[List.length_nil];omega),List.nil_append]
 rfl
theorem lvsL_take {n:Nat} (h:n < r.length):(lvsL v L P r).take (n+1)=lvsL v L P (r.take n):=by
 have hl:(r.take n).length=n:=by rw[List.length_take];omega
 unfold lvsL
 rw[← List.map_take,hl,List.take_range,Nat.min_eq_left (by omega)]
 refine List.map_congr_left fun m hm=>?_
 have:=List.mem_range.1 hm
 rw[List.take_take,Nat.min_eq_left (by omega)]
theorem prop_Pop_eq (hr:r.length≤1000):prop_Prop_Pop k (mkP v L P r)=some (if r.length=0 then (false,lvsL v L P r,r) else (true,lvsL v L P (r.take (r.length-1)),r.take (r.length-1))):=by
 have hlv:(mkP v L P r).levels.length=r.length+1:=lvsL_len
 have hp:(mkP v L P r).p=r:=rfl
 unfold prop_Prop_Pop
 rw[bindS prop_Depth_eq]
 by_cases h:r.length=0
 ·rw[condD (by omega),if_pos h];rfl
 ·have e1:wr (((r.length+1:Nat):Int)-1)=(r.length:Int):=by rw[wr_id (by omega) (by omega)];omega
  have e2:wr ((r.length:Int)-1)=((r.length-1:Nat):Int):=by rw[wr_id (by omega) (by omega)];omega
  rw[condN (by omega),hlv,hp,e1,e2,gdD (by omega),gdD (by omega),if_neg h,Int.toNat_natCast,Int.toNat_natCast]
  have:=lvsL_take (v:=v) (L:=L) (P:=P) (r:=r) (n:=r.length-1) (by omega)
  rw[show r.length-1+1=r.length by omega] at this
  rw[← this]
  rfl
theorem StateP.take (h:StateP v L P r) (n:Nat):StateP v L P (r.take n):=by
 have hl:=h.len
 refine⟨h.inn,by rw[List.length_take];omega,fun i hi=>?_⟩
 rw[List.length_take] at hi
 have hG:=h.at_ i (by omega)
 refine⟨fun f hf=>by rw[aI_take (by omega) (by omega)];exact hG.pin f hf,fun hn=>?_,fun hn j hj hnj=>?_⟩
 ·rw[aI_take (by omega) (by omega)] at hn ⊢
  exact hG.pl hn
 ·rw[aI_take (by omega) (by omega)] at hn hnj ⊢
  rw[aI_take (by omega) (by omega)]
  exact hG.ap hn j hj hnj
theorem StateP_nil (hI:InOK v L P):StateP v L P []:=⟨hI,by simp,fun i hi=>absurd hi (by simp)⟩
end
end Go.Px

set_option linter.unusedVariables false
set_option linter.unusedSimpArgs false
namespace Go.Px
open Go Go.Sh
structure HS where
 plan:List Int
 most:Int
 nodes:Int
 tree:List Bool
noncomputable def rowRun (f:Int→HS→HS×Bool):List Int→HS→HS×Bool
 | [],s=>(s,true)
 | x::xs,s=>if (f x s).2=true then rowRun f xs (f x s).1 else f x s
noncomputable def rowL (v:Venue) (L:List Party) (P:List Pin) (r:List Int):List Int:=openL v L P r (r.length:Int)++(if (pinAt P (r.length:Int)).isSome=true then [] else [-1])
noncomputable def leafS (v:Venue) (L:List Party) (P:List Pin) (r:List Int) (s:HS):HS:=if s.most < mostN v L P r L.length then ⟨r,mostN v L P r L.length,s.nodes+1,s.tree⟩ else ⟨s.plan,s.most,s.nodes+1,s.tree⟩
noncomputable def hunt (v:Venue) (L:List Party) (P:List Pin) (fuel:Int):Nat→List Int→HS→HS×Bool
 | 0,r,s=>if fuel≤s.nodes then (s,false) else (leafS v L P r s,true)
 | d+1,r,s=>if fuel≤s.nodes then (s,false) else if s.most < mostN v L P r L.length then rowRun (fun x s=>hunt v L P fuel d (r++[x]) s) (rowL v L P r) ⟨s.plan,s.most,s.nodes+1,s.tree++[true]⟩ else (⟨s.plan,s.most,s.nodes+1,s.tree++[false]⟩,true)
section
variable {k:Nat} {v:Venue} {L:List Party} {P:List Pin} {r:List Int} {fuel:Int}
structure HInv (fuel:Int) (s:HS):Prop where
 n0:0≤s.nodes
 t:(s.tree.length:Int)≤s.nodes
theorem rowRun_inv {f:Int→HS→HS×Bool} (hf:∀x s,HInv fuel s→HInv fuel (f x s).1):∀(l:List Int) (s:HS),HInv fuel s→HInv fuel (rowRun f l s).1
 | [],s,h=>h
 | x::xs,s,h=>by
  rw[rowRun]
  split
  ·exact rowRun_inv hf xs _ (hf x s h)
  ·exact hf x s h
theorem hunt_inv:∀(d:Nat) (r:List Int) (s:HS),HInv fuel s→HInv fuel (hunt v L P fuel d r s).1
 | 0,r,s,h=>by
  have h1:=h.n0
  have h2:=h.t
  rw[hunt]
  split
  ·exact h
  ·unfold leafS
   split
   ·exact⟨by show 0≤s.nodes+1;omega,by show(s.tree.length:Int)≤s.nodes+1;omega⟩
   ·exact⟨by show 0≤s.nodes+1;omega,by show(s.tree.length:Int)≤s.nodes+1;omega⟩
 | d+1,r,s,h=>by
  have h1:=h.n0
  have h2:=h.t
  have hs:∀b:Bool,HInv fuel ⟨s.plan,s.most,s.nodes+1,s.tree++[b]⟩:=fun b=>⟨by show 0≤s.nodes+1;omega,by show((s.tree++[b]).length:Int)≤s.nodes+1;rw[List.length_append,List.length_singleton];omega⟩
  rw[hunt]
  split
  ·exact h
  ·split
   ·exact rowRun_inv (fun x s hs=>hunt_inv d (r++[x]) s hs) _ _ (hs true)
   ·exact hs false
theorem rowL_next (hv:Small k v) (hst:StateP v L P r) (hr:r.length < L.length) {x:Int} (h:x ∈ rowL v L P r):NextP v L P r x:=by
 unfold rowL at h
 rcases List.mem_append.1 h with h | h
 ·exact⟨hst,hr,.inr h⟩
 ·split at h
  ·cases h
  ·rename_i hn
   rw[List.mem_singleton] at h
   refine⟨hst,hr,.inl ⟨h,?_⟩⟩
   cases hp:pinAt P (r.length:Int) with
   | none=>rfl
   | some f=>rw[hp] at hn;exact absurd rfl hn
theorem rowL_len:(rowL v L P r).length≤v.Seats.length+1:=by
 unfold rowL
 have:=openL_len (v:=v) (L:=L) (P:=P) (r:=r) (i:=(r.length:Int))
 rw[List.length_append]
 split <;> simp <;> omega
theorem search_Row_eq (hst:StateP v L P r) (hr:r.length < L.length):search_Row k (mkP v L P r)=some (rowL v L P r):=by
 have hM:=hst.inn.1
 have hn1:=hM.n1
 have hd:domL v L P r r.length=openL v L P r (r.length:Int):=by unfold domL;rw[if_neg (Nat.lt_irrefl _)]
 have hol:=openL_len (v:=v) (L:=L) (P:=P) (r:=r) (i:=(r.length:Int))
 unfold search_Row
 rw[bindS prop_Depth_eq,bindS (prop_Domain_eq hst _),if_pos ⟨by omega,by omega⟩,Int.toNat_natCast,hd,bindS (prop_Pinned_eq hr)]
 unfold rowL
 cases (pinAt P (r.length:Int)).isSome
 ·rw[cNF,gdD (by simp only[List.length_singleton];omega),if_neg (by simp)]
 ·rw[cNT,if_pos rfl,List.append_nil]
def upR (r:List Int):List Int:=r.take (r.length-1)
theorem pop_up (hr:r.length≤1000):∃b,prop_Prop_Pop k (mkP v L P r)=some (b,lvsL v L P (upR r),upR r):=by
 rw[prop_Pop_eq hr]
 unfold upR
 by_cases h:r.length=0
 ·obtain rfl:=List.length_eq_zero_iff.1 h
  exact⟨false,rfl⟩
 ·rw[if_neg h];exact⟨true,rfl⟩
theorem upR_snoc {x:Int} : upR (r++[x])=r:=by
 unfold upR
 rw[List.length_append,List.length_singleton,Nat.add_sub_cancel,List.take_left']
 rfl
noncomputable def lookS (v:Venue) (L:List Party) (P:List Pin) (fuel:Int) (r:List Int) (s:HS) (st:List SearchRow):Bool×List Int×HS×List SearchRow :=
 if fuel≤s.nodes then (false,r,s,st) else if r.length=L.length then (true,upR r,leafS v L P r s,st) else if s.most < mostN v L P r L.length then (true,r,⟨s.plan,s.most,s.nodes+1,s.tree++[true]⟩,st++[SearchRow.mk (rowL v L P r) 0]) else (true,upR r,⟨s.plan,s.most,s.nodes+1,s.tree++[false]⟩,st)
theorem look_eq (hv:Small k v) (hk:1000 < k) (hst:StateP v L P r) (hf:fuel≤1073741824) {s:HS} (hs:HInv fuel s) {st:List SearchRow} (hsl:st.length≤1000) (A:Int):search_hunt_look k (SearchHunt.mk (mkP v L P r) L (SearchResult.mk A s.plan s.nodes s.tree) s.most fuel st) =
  some ((lookS v L P fuel r s st).1,lvsL v L P (lookS v L P fuel r s st).2.1,(lookS v L P fuel r s st).2.1,SearchResult.mk A (lookS v L P fuel r s st).2.2.1.plan (lookS v L P fuel r s st).2.2.1.nodes (lookS v L P fuel r s st).2.2.1.tree,(lookS v L P fuel r s st).2.2.1.most,(lookS v L P fuel r s st).2.2.2):=by
 have h1:=hst.inn.2.2.1
 have h2:=hst.len
 have hs1:=hs.n0
 have hs2:=hs.t
 unfold search_hunt_look lookS
 dsimp only
 by_cases h:fuel≤s.nodes
 ·rw[condD h,if_pos h]
  rfl
 obtain⟨b,eP⟩:=pop_up (k:=k) (v:=v) (L:=L) (P:=P) (r:=r) (by omega)
 have hw:wr (s.nodes+1)=s.nodes+1:=wr_id (by omega) (by omega)
 rw[condN h,if_neg h,bindS prop_Depth_eq,hw]
 by_cases hr:r.length=L.length
 ·rw[condD (by omega),if_pos hr,bindS (prop_Most_eq hv hk hst)]
  unfold leafS
  by_cases hm:s.most < mostN v L P r L.length
  ·rw[condD hm,bindS (prop_Plan_eq (by omega)),bindS rfl,bindS eP,if_pos hm]
  ·rw[condN hm,bindS rfl,bindS eP,if_neg hm]
 ·rw[condN (by omega),if_neg hr,bindS (prop_Most_eq hv hk hst)]
  by_cases hm:s.most < mostN v L P r L.length
  ·rw[condD hm,if_pos hm,bindS (search_Row_eq hst (by omega)),gdD (by simp only[List.length_singleton];omega),gdD (by simp only[List.length_singleton];omega)]
   rfl
  ·rw[condN hm,if_neg hm,gdD (by simp only[List.length_singleton];omega),bindS eP]
noncomputable def mach (k:Nat) (v:Venue) (L:List Party) (P:List Pin) (h0:SearchHunt) (A:Int) (n:Nat) (q:Bool×List Int×HS×List SearchRow):Option ((List (List (List Int)))×(List Int)×Int×(List Int)×Int×(List Bool)×Int×(List SearchRow)×Bool) :=
 search_hunt_run_l0 k h0 n (lvsL v L P q.2.1) q.2.1 A q.2.2.1.plan q.2.2.1.nodes q.2.2.1.tree q.2.2.1.most q.2.2.2 q.1
def stepsB:Nat→Nat
 | 0=>0
 | d+1=>10 * (1+stepsB d)+1
theorem mach_row (hv:Small k v) (hk:1000 < k) (hn9:v.Seats.length≤9) (hf:fuel≤1073741824) {h0:SearchHunt} (hh1:h0.p.s=setOf v L P) (hh2:h0.l=L) (hh3:h0.fuel=fuel) {A:Int} {d:Nat}
  (hmain:∀(r:List Int) (s:HS) (st:List SearchRow),r.length+d=L.length→StateP v L P r→HInv fuel s→st.length≤r.length+1→∃m q,m≤stepsB d∧(∀n,mach k v L P h0 A (n+m) (lookS v L P fuel r s st)=mach k v L P h0 A n q)∧q.1=(hunt v L P fuel d r s).2∧q.2.2.1=(hunt v L P fuel d r s).1∧(q.1=true→q.2.1=upR r∧q.2.2.2=st))
  (hr:r.length+(d+1)=L.length) (hst:StateP v L P r) {st:List SearchRow} (hsl:st.length≤r.length+1):∀(e a:Nat) (s:HS),a+e=(rowL v L P r).length→HInv fuel s →
  ∃m q,m≤e * (1+stepsB d)+1∧(∀n,mach k v L P h0 A (n+m) (true,r,s,st++[SearchRow.mk (rowL v L P r) (a:Int)])=mach k v L P h0 A n q)∧q.1=(rowRun (fun x s=>hunt v L P fuel d (r++[x]) s) ((rowL v L P r).drop a) s).2∧q.2.2.1=(rowRun (fun x s=>hunt v L P fuel d (r++[x]) s) ((rowL v L P r).drop a) s).1∧(q.1=true→q.2.1=upR r∧q.2.2.2=st):=by
 have hlen:=hst.inn.2.2.1
 have hrl:=rowL_len (v:=v) (L:=L) (P:=P) (r:=r)
 have hstl:∀a:Int,(st++[SearchRow.mk (rowL v L P r) a]).length=st.length+1:=fun a=>by simp
 have htop:∀a:Int,idx (st++[SearchRow.mk (rowL v L P r) a]) (st.length:Int)=some (SearchRow.mk (rowL v L P r) a):=fun a=>by
  refine idx_get (by omega) ?_
  rw[Int.toNat_natCast,List.getElem?_append_right (Nat.le_refl _),Nat.sub_self]
  rfl
 have hw:∀a:Int,wr (((st++[SearchRow.mk (rowL v L P r) a]).length:Int)-1)=(st.length:Int):=fun a=>by
  rw[hstl,wr_id (by omega) (by omega)];omega
 intro e
 induction e with
 | zero =>
  intro a s ha hs
  obtain⟨b,eP⟩:=pop_up (k:=k) (v:=v) (L:=L) (P:=P) (r:=r) (by omega)
  refine⟨1,(true,upR r,s,st),by omega,fun n=>?_,?_,?_,fun _=>⟨rfl,rfl⟩⟩
  ·unfold mach
   dsimp only
   rw[search_hunt_run_l0,hh1]
   have eP':prop_Prop_Pop k (PropProp.mk (setOf v L P) (lvsL v L P r) r)=_:=eP
   rw[cond_true,bindS rfl,decide_eq_true (by rw[hstl];omega),cond_true,hw,bindS (htop _)]
   dsimp only
   rw[condD (by omega),gdD (by rw[hstl];omega),bindS eP',Int.toNat_natCast,List.take_left']
   rfl
  ·rw[List.drop_eq_nil_of_le (by omega)];rfl
  ·rw[List.drop_eq_nil_of_le (by omega)];rfl
 | succ e ih =>
  intro a s ha hs
  have hx:idx (rowL v L P r) (a:Int)=some (aI (rowL v L P r) (a:Int)):=idx_aI (by omega) (by omega)
  have hnx:=rowL_next hv hst (by omega) (aI_mem (l:=rowL v L P r) (x:=(a:Int)) (by omega) (by omega))
  have hdrop:=drop_aI (l:=rowL v L P r) (i:=a) (by omega)
  generalize aI (rowL v L P r) (a:Int)=x at hx hnx hdrop
  have hst':=hnx.state hv
  have hl':(r++[x]).length=r.length+1:=by simp
  have eP:=prop_Push_eq (k:=k) hv hk hst x
  rw[dB_T hnx,if_pos rfl] at eP
  have eP':prop_Prop_Push k (PropProp.mk (setOf v L P) (lvsL v L P r) r) x=_:=eP
  have hset:(st++[SearchRow.mk (rowL v L P r) (a:Int)]).set st.length (SearchRow.mk (rowL v L P r) ((a+1:Nat):Int))=st++[SearchRow.mk (rowL v L P r) ((a+1:Nat):Int)]:=by
   rw[List.set_append_right _ _ (Nat.le_refl _),Nat.sub_self]
   rfl
  have eL:=look_eq (k:=k) (r:=r++[x]) hv hk hst' hf hs (st:=st++[SearchRow.mk (rowL v L P r) ((a+1:Nat):Int)]) (by rw[hstl];omega) A
  have hone:∀n,mach k v L P h0 A (n+1) (true,r,s,st++[SearchRow.mk (rowL v L P r) (a:Int)])=mach k v L P h0 A n (lookS v L P fuel (r++[x]) s (st++[SearchRow.mk (rowL v L P r) ((a+1:Nat):Int)])):=fun n=>by
   unfold mach
   dsimp only
   rw[search_hunt_run_l0,hh1,hh2,hh3,cond_true,bindS rfl,decide_eq_true (by rw[hstl];omega),cond_true,hw,bindS (htop _)]
   dsimp only
   have hwa:wr (wr ((a:Int)+1)-1)=(a:Int):=by rw[wr_id (x:=(a:Int)+1) (by omega) (by omega),wr_id (by omega) (by omega)];omega
   rw[condN (by omega),hwa,bindS hx,bindS eP',wr_succ (by omega),Int.toNat_natCast,hset]
   dsimp only
   have eL':search_hunt_look k (SearchHunt.mk (PropProp.mk (setOf v L P) (lvsL v L P (r++[x])) (r++[x])) L (SearchResult.mk A s.plan s.nodes s.tree) s.most fuel (st++[SearchRow.mk (rowL v L P r) ((a+1:Nat):Int)]))=_:=eL
   rw[bindS eL']
  obtain⟨m1,q1,hm1,hq1,hq2,hq3,hq4⟩:=hmain (r++[x]) s (st++[SearchRow.mk (rowL v L P r) ((a+1:Nat):Int)]) (by omega) hst' hs (by rw[hstl];omega)
  rw[hdrop,rowRun]
  cases hok:(hunt v L P fuel d (r++[x]) s).2
  ·rw[if_neg (by simp)]
   rw[hok] at hq2
   refine⟨m1+1,q1,?_,fun n=>?_,by rw[hq2,hok],hq3,fun h=>by rw[hq2] at h;cases h⟩
   ·rw[Nat.succ_mul];omega
   ·rw[show n+(m1+1)=(n+m1)+1 by omega,hone,hq1]
  ·rw[if_pos rfl]
   rw[hok] at hq2
   obtain⟨hp,hst4⟩:=hq4 hq2
   rw[upR_snoc] at hp
   obtain⟨m2,q,hm2,h1,h2,h3,h4⟩:=ih (a+1) (hunt v L P fuel d (r++[x]) s).1 (by omega) (hunt_inv d _ _ hs)
   have hq:q1=(true,r,(hunt v L P fuel d (r++[x]) s).1,st++[SearchRow.mk (rowL v L P r) ((a+1:Nat):Int)]):=by
    obtain⟨x1,x2,x3,x4⟩:=q1
    dsimp only at hq2 hq3 hp hst4
    rw[hq2,hq3,hp,hst4]
   refine⟨m1+m2+1,q,?_,fun n=>?_,h2,h3,h4⟩
   ·rw[Nat.succ_mul];omega
   ·rw[show n+(m1+m2+1)=((n+m2)+m1)+1 by omega,hone,hq1,hq,h1]
theorem mach_main (hv:Small k v) (hk:1000 < k) (hn9:v.Seats.length≤9) (hf:fuel≤1073741824) {h0:SearchHunt} (hh1:h0.p.s=setOf v L P) (hh2:h0.l=L) (hh3:h0.fuel=fuel) {A:Int} : ∀(d:Nat) (r:List Int) (s:HS) (st:List SearchRow),r.length+d=L.length→StateP v L P r→HInv fuel s→st.length≤r.length+1→∃m q,m≤stepsB d∧(∀n,mach k v L P h0 A (n+m) (lookS v L P fuel r s st)=mach k v L P h0 A n q)∧q.1=(hunt v L P fuel d r s).2∧q.2.2.1=(hunt v L P fuel d r s).1∧(q.1=true→q.2.1=upR r∧q.2.2.2=st)
 | 0,r,s,st,hr,hst,hs,hsl=>by
  refine⟨0,lookS v L P fuel r s st,Nat.le_refl _,fun n=>rfl,?_,?_,?_⟩
  ·unfold lookS
   rw[hunt]
   by_cases h:fuel≤s.nodes
   ·rw[if_pos h,if_pos h]
   ·rw[if_neg h,if_neg h,if_pos (by omega)]
  ·unfold lookS
   rw[hunt]
   by_cases h:fuel≤s.nodes
   ·rw[if_pos h,if_pos h]
   ·rw[if_neg h,if_neg h,if_pos (by omega)]
  ·unfold lookS
   by_cases h:fuel≤s.nodes
   ·rw[if_pos h];intro x;cases x
   ·rw[if_neg h,if_pos (by omega)];exact fun _=>⟨rfl,rfl⟩
 | d+1,r,s,st,hr,hst,hs,hsl=>by
  have hs1:=hs.n0
  have hs2:=hs.t
  have hrl:=rowL_len (v:=v) (L:=L) (P:=P) (r:=r)
  rw[hunt]
  unfold lookS
  by_cases h:fuel≤s.nodes
  ·rw[if_pos h,if_pos h]
   exact⟨0,(false,r,s,st),by omega,fun n=>rfl,rfl,rfl,fun x=>by cases x⟩
  rw[if_neg h,if_neg h,if_neg (by omega)]
  by_cases hm:s.most < mostN v L P r L.length
  ·rw[if_pos hm,if_pos hm]
   have hs':HInv fuel ⟨s.plan,s.most,s.nodes+1,s.tree++[true]⟩:=⟨by show 0≤s.nodes+1;omega,by show((s.tree++[true]).length:Int)≤s.nodes+1;rw[List.length_append,List.length_singleton];omega⟩
   obtain⟨m,q,h1,h2,h3,h4,h5⟩:=mach_row hv hk hn9 hf hh1 hh2 hh3 (A:=A) (mach_main hv hk hn9 hf hh1 hh2 hh3 d) hr hst hsl (rowL v L P r).length 0 _ (by omega) hs'
   rw[List.drop_zero] at h3 h4
   refine⟨m,q,?_,h2,h3,h4,h5⟩
   have:(rowL v L P r).length * (1+stepsB d)≤10 * (1+stepsB d):=Nat.mul_le_mul_right _ (by omega)
   rw[stepsB]
   omega
  ·rw[if_neg hm,if_neg hm]
   exact⟨0,(true,upR r,⟨s.plan,s.most,s.nodes+1,s.tree++[false]⟩,st),by omega,fun n=>rfl,rfl,rfl,fun _=>⟨rfl,rfl⟩⟩
end
end Go.Px

set_option linter.unusedVariables false
set_option linter.unusedSimpArgs false
namespace Go.Px
open Go Go.Sh
section
variable {k:Nat} {v:Venue} {L:List Party} {P:List Pin} {r:List Int} {fuel:Int}
def leastL (L:List Party) (P:List Pin) (j:Nat):List Int:=(List.range L.length).map (fun i:Nat=>(mget (pmN P j) (i:Int)).getD (-1))
theorem leastL_len {j:Nat} : (leastL L P j).length=L.length:=by unfold leastL;simp
theorem leastL_at {j i:Nat} (h:i < L.length):aI (leastL L P j) (i:Int)=(mget (pmN P j) (i:Int)).getD (-1):=map_range_at h
theorem least_l1 (hP:PinOK v L P) (hl:P.length≤1000):∀(d n j:Nat),j+d=P.length→d < n→search_Least_l1 k P n (leastL L P j) (j:Int)=some (leastL L P P.length)
 | d,0,j,_,h=>absurd h (by omega)
 | 0,n+1,j,hj,_=>by rw[search_Least_l1,condN (by omega),show j=P.length by omega]
 | d+1,n+1,j,hj,hd=>by
  have hG:=hP j (by omega)
  have h1:=hG.lo
  have h2:=hG.hi
  have hl1:(leastL L P j).length=L.length:=leastL_len
  rw[search_Least_l1,condD (by omega),bindS (idx_aI (by omega) (by omega)),bindS (idx_aI (l:=leastL L P j) h1 (by omega)),wr_succ (by omega)]
  have e:(leastL L P j).set (aI P (j:Int)).Party.toNat (aI P (j:Int)).First=leastL L P (j+1):=by
   refine aI_ext (by rw[List.length_set,leastL_len,leastL_len]) fun i hi=>?_
   rw[List.length_set,leastL_len] at hi
   rw[aI_set (by omega),leastL_at hi,leastL_at hi,pmN,mget_mset]
   by_cases h:(i:Int)=(aI P (j:Int)).Party
   ·rw[if_pos (by omega),if_pos h];rfl
   ·rw[if_neg (by omega),if_neg h]
  rw[e]
  exact least_l1 hP hl d n (j+1) (by omega) (by omega)
theorem search_Least_eq (hv:Small k v) (hk:1000 < k) (hI:InOK v L P) (hP:P.length≤1000):search_Least k v L P=some (pinPlan L P):=by
 have h1:=hI.2.2.1
 have hb:=hv.b
 have e0:=fill0 (f:=fun n w i=>search_Least_l0 k L n w i) (len:=L.length) (fun _=>(-1:Int))
  (fun n i w hi hw=>by
   show search_Least_l0 k L (n+1) w (i:Int)=search_Least_l0 k L n _ _
   rw[search_Least_l0,condD (by rw[List.length_replicate,Int.toNat_natCast];omega),bindS (idx_aI (by omega) (by omega)),wr_succ (by omega),Int.toNat_natCast])
  (fun n w hw=>by show search_Least_l0 k L (n+1) w _=_;rw[search_Least_l0,condN (by rw[List.length_replicate,Int.toNat_natCast];omega)])
  (k:=k) (by omega) (List.replicate L.length 0) (by simp)
 have e0:search_Least_l0 k L k (List.replicate L.length 0) 0=some (leastL L P 0):=e0
 have e1:=least_l1 (k:=k) hI.2.1 hP P.length k 0 (by omega) (by omega)
 have e1:search_Least_l1 k P k (leastL L P 0) 0=some (pinPlan L P):=e1
 unfold search_Least
 rw[bindS (plan_Pins_eq hv hk (by omega) (by omega) (pins_ok hv hI.2.1)),dB_T hI,cNT,gdD (by omega),Int.toNat_natCast,bindS e0,bindS e1]
abbrev FullP (L:List Party) (r:List Int):Prop:=(∀i:Nat,i < r.length→0≤aI r (i:Int))∧L.length=r.length
theorem plan_Full_eq (hr:r.length < k) (hb:k≤4294967290):plan_Full k L r=some (dB (FullP L r)):=by
 unfold plan_Full
 have e:=scanB (F:=fun n i=>plan_Full_l0 k r n (i:Int)) (len:=r.length) (k:=k) (fun i=>0≤aI r (i:Int)) (t:=()) (r:=false)
  (fun n i hi _ hg=>by
   rw[plan_Full_l0,condD (by omega),bindS (idx_aI (by omega) (by omega)),condN (by omega),wr_succ (by omega)])
  (fun n i hi _ hg=>by
   rw[plan_Full_l0,condD (by omega),bindS (idx_aI (by omega) (by omega)),condD (by omega)])
  (fun n _=>by
   rw[plan_Full_l0,condN (by omega)]) hr
 have e:plan_Full_l0 k r k 0=_:=e
 rw[bindS e]
 rcases Classical.em (∀i:Nat,i < r.length→0≤aI r (i:Int)) with h | h
 ·rw[dB_T h,if_pos rfl,elim_go]
  by_cases hl:L.length=r.length
  ·rw[decide_eq_true (by omega),dB_T ⟨h,hl⟩]
  ·rw[decide_eq_false (by omega),dB_F (fun x=>hl x.2)]
 ·rw[dB_F h,if_neg (by simp),elim_rt,dB_F (fun x=>h x.1)]
noncomputable def s0 (L:List Party) (P:List Pin):HS:=⟨pinPlan L P,seatN L (pinPlan L P) L.length,0,[]⟩
noncomputable def huntR (v:Venue) (L:List Party) (P:List Pin) (fuel:Int):HS×Bool:=hunt v L P fuel L.length [] (s0 L P)
theorem s0_inv:HInv fuel (s0 L P):=⟨Int.le_refl 0,by show((([]:List Bool).length:Int))≤0;simp⟩
theorem stepsB_4 {d:Nat} (h:d≤4):stepsB d≤12221:=by
 have:d=0∨d=1∨d=2∨d=3∨d=4:=by omega
 rcases this with rfl | rfl | rfl | rfl | rfl <;> decide
theorem hunt_run_eq (hc:BCtx v L P) (hf:fuel≤1073741824):∃lv p st,search_hunt_run 20000 (SearchHunt.mk (mkP v L P []) L (SearchResult.mk 0 (pinPlan L P) 0 []) (seatN L (pinPlan L P) L.length) fuel []) =
  some ((huntR v L P fuel).2,lv,p,SearchResult.mk 0 (huntR v L P fuel).1.plan (huntR v L P fuel).1.nodes (huntR v L P fuel).1.tree,(huntR v L P fuel).1.most,st):=by
 have hv:=hc.small
 have h4:=hc.pr.l4
 have hst:=StateP_nil (hc.pr.inn hc.ok)
 have eL:=look_eq (k:=20000) (r:=[]) hv (by omega) hst hf (s:=s0 L P) s0_inv (st:=[]) (by simp) 0
 have eL:search_hunt_look 20000 (SearchHunt.mk (mkP v L P []) L (SearchResult.mk 0 (pinPlan L P) 0 []) (seatN L (pinPlan L P) L.length) fuel [])=_:=eL
 obtain⟨m,q,h1,h2,h3,h5,h6⟩:=mach_main hv (by omega) hc.pr.n1 hf (h0:=SearchHunt.mk (mkP v L P []) L (SearchResult.mk 0 (pinPlan L P) 0 []) (seatN L (pinPlan L P) L.length) fuel []) rfl rfl rfl (A:=0) L.length [] (s0 L P) [] (by simp) hst s0_inv (by simp)
 have hb:=stepsB_4 h4
 have e:=h2 (20000-m)
 rw[show 20000-m+m=20000 by omega] at e
 obtain⟨n,hn⟩:∃n,20000-m=n+1:=⟨20000-m-1,by omega⟩
 rw[hn] at e
 have hend:mach 20000 v L P (SearchHunt.mk (mkP v L P []) L (SearchResult.mk 0 (pinPlan L P) 0 []) (seatN L (pinPlan L P) L.length) fuel []) 0 (n+1) q=some (lvsL v L P q.2.1,q.2.1,0,q.2.2.1.plan,q.2.2.1.nodes,q.2.2.1.tree,q.2.2.1.most,q.2.2.2,q.1):=by
  unfold mach
  rw[search_hunt_run_l0]
  cases hq:q.1
  ·rw[cond_false,bindS rfl,cond_false]
  ·rw[(h6 hq).2,cond_true,bindS rfl,decide_eq_false (by simp),cond_false]
 rw[hend] at e
 unfold mach at e
 unfold search_hunt_run
 rw[bindS eL]
 dsimp only
 rw[bindS e]
 dsimp only
 rw[h3,h5]
 exact⟨_,_,_,rfl⟩
noncomputable def ansI (v:Venue) (L:List Party) (P:List Pin) (fuel:Int):Int:=if (huntR v L P fuel).2=true then (if dB (FullP L (huntR v L P fuel).1.plan)=true then 1 else 2) else 3
noncomputable def resR (v:Venue) (L:List Party) (P:List Pin) (fuel:Int):SearchResult:=SearchResult.mk (ansI v L P fuel) (huntR v L P fuel).1.plan (huntR v L P fuel).1.nodes (huntR v L P fuel).1.tree
/- what holds of the walk -/
theorem rowRun_mono {f:Int→HS→HS×Bool} (hf:∀x s,s.nodes≤(f x s).1.nodes∧s.most≤(f x s).1.most):∀(l:List Int) (s:HS),s.nodes≤(rowRun f l s).1.nodes∧s.most≤(rowRun f l s).1.most
 | [],s=>⟨Int.le_refl _,Int.le_refl _⟩
 | x::xs,s=>by
  have h1:=hf x s
  rw[rowRun]
  split
  ·have h2:=rowRun_mono hf xs (f x s).1
   exact⟨by omega,by omega⟩
  ·exact h1
theorem leaf_mono (s:HS):(leafS v L P r s).nodes=s.nodes+1∧s.most≤(leafS v L P r s).most:=by
 unfold leafS
 split
 ·rename_i h;exact⟨rfl,by show s.most≤mostN v L P r L.length;omega⟩
 ·exact⟨rfl,Int.le_refl _⟩
theorem hunt_mono:∀(d:Nat) (r:List Int) (s:HS),s.nodes≤(hunt v L P fuel d r s).1.nodes∧s.most≤(hunt v L P fuel d r s).1.most
 | 0,r,s=>by
  have h:=leaf_mono (v:=v) (L:=L) (P:=P) (r:=r) s
  rw[hunt]
  split
  ·exact⟨Int.le_refl _,Int.le_refl _⟩
  ·exact⟨by show s.nodes≤(leafS v L P r s).nodes;omega,h.2⟩
 | d+1,r,s=>by
  rw[hunt]
  split
  ·exact⟨Int.le_refl _,Int.le_refl _⟩
  ·split
   ·have h:=rowRun_mono (f:=fun x s=>hunt v L P fuel d (r++[x]) s) (fun x s=>hunt_mono d (r++[x]) s) (rowL v L P r) ⟨s.plan,s.most,s.nodes+1,s.tree++[true]⟩
    have h1:s.nodes+1≤_:=h.1
    have h2:s.most≤_:=h.2
    exact⟨by omega,h2⟩
   ·exact⟨by show s.nodes≤s.nodes+1;omega,Int.le_refl _⟩
theorem rowRun_used {f:Int→HS→HS×Bool} (hf:∀x s,(f x s).2=true→(f x s).1.nodes≤fuel):∀(l:List Int) (s:HS),s.nodes≤fuel→(rowRun f l s).2=true→(rowRun f l s).1.nodes≤fuel
 | [],s,h,_=>h
 | x::xs,s,h,ho=>by
  rw[rowRun] at ho ⊢
  split
  ·rename_i h1
   rw[if_pos h1] at ho
   exact rowRun_used hf xs _ (hf x s h1) ho
  ·rename_i h1
   rw[if_neg h1] at ho
   exact absurd ho h1
theorem hunt_used:∀(d:Nat) (r:List Int) (s:HS),(hunt v L P fuel d r s).2=true→(hunt v L P fuel d r s).1.nodes≤fuel∧s.nodes+1≤(hunt v L P fuel d r s).1.nodes
 | 0,r,s,h=>by
  have hl:=leaf_mono (v:=v) (L:=L) (P:=P) (r:=r) s
  rw[hunt] at h ⊢
  by_cases h1:fuel≤s.nodes
  ·rw[if_pos h1] at h;cases h
  ·rw[if_neg h1]
   exact⟨by show(leafS v L P r s).nodes≤fuel;omega,by show s.nodes+1≤(leafS v L P r s).nodes;omega⟩
 | d+1,r,s,h=>by
  rw[hunt] at h ⊢
  by_cases h1:fuel≤s.nodes
  ·rw[if_pos h1] at h;cases h
  ·rw[if_neg h1] at h ⊢
   by_cases h2:s.most < mostN v L P r L.length
   ·rw[if_pos h2] at h ⊢
    have hm:=rowRun_mono (f:=fun x s=>hunt v L P fuel d (r++[x]) s) (fun x s=>hunt_mono d (r++[x]) s) (rowL v L P r) ⟨s.plan,s.most,s.nodes+1,s.tree++[true]⟩
    exact⟨rowRun_used (fun x s hx=>(hunt_used d (r++[x]) s hx).1) _ _ (by show s.nodes+1≤fuel;omega) h,hm.1⟩
   ·rw[if_neg h2]
    exact⟨by show s.nodes+1≤fuel;omega,Int.le_refl _⟩
structure Less (f1:Int) (a b:HS×Bool) (s:HS):Prop where
 same:a.2=true→b=a
 nodes:a.2=false→a.1.nodes=max f1 s.nodes
 most:a.1.most≤b.1.most
 more:a.2=false→b.2=true→f1 < b.1.nodes
 le:a.1.nodes≤b.1.nodes
end
end Go.Px

set_option linter.unusedVariables false
set_option linter.unusedSimpArgs false
namespace Go.Px
open Go Go.Sh
section
variable {k:Nat} {v:Venue} {L:List Party} {P:List Pin} {r:List Int} {fuel:Int}
theorem rowRun_ind {I:HS→Prop} {f:Int→HS→HS×Bool} : ∀(l:List Int),(∀x,x ∈ l→∀s,I s→I (f x s).1)→∀s,I s→I (rowRun f l s).1
 | [],_,s,h=>h
 | x::xs,hf,s,h=>by
  rw[rowRun]
  split
  ·exact rowRun_ind xs (fun y hy=>hf y (by simp [hy])) _ (hf x (by simp) s h)
  ·exact hf x (by simp) s h
def PlanI (v:Venue) (L:List Party) (P:List Pin) (s:HS):Prop:=PlanP v L P s.plan∧seatN L s.plan L.length=s.most
theorem leaf_plan (hst:StateP v L P r) (hr:r.length=L.length) {s:HS} (h:PlanI v L P s):PlanI v L P (leafS v L P r s):=by
 unfold leafS
 split
 ·exact⟨⟨hst.inn,hr,hst.at_⟩,(most_full hr _ (Nat.le_refl _)).symm⟩
 ·exact h
theorem hunt_plan (hv:Small k v):∀(d:Nat) (r:List Int) (s:HS),r.length+d=L.length→StateP v L P r→PlanI v L P s→PlanI v L P (hunt v L P fuel d r s).1
 | 0,r,s,hr,hst,h=>by
  rw[hunt]
  split
  ·exact h
  ·exact leaf_plan hst hr h
 | d+1,r,s,hr,hst,h=>by
  rw[hunt]
  split
  ·exact h
  ·split
   ·exact rowRun_ind (I:=PlanI v L P) _ (fun x hx s hs=>hunt_plan hv d (r++[x]) s (by simp;omega) ((rowL_next hv hst (by omega) hx).state hv) hs) _ h
   ·exact h
def nB:Nat→Int
 | 0=>1
 | d+1=>1+10 * nB d
theorem nB_pos:∀d,1≤nB d
 | 0=>by rw[nB];omega
 | d+1=>by have:=nB_pos d;rw[nB];omega
theorem rowRun_bd {f:Int→HS→HS×Bool} {B:Int} (hB:0≤B) (hf:∀x s,s.nodes+B≤fuel→(f x s).2=true∧(f x s).1.nodes≤s.nodes+B):∀(l:List Int) (s:HS),s.nodes+(l.length:Int) * B≤fuel→(rowRun f l s).2=true∧(rowRun f l s).1.nodes≤s.nodes+(l.length:Int) * B
 | [],s,h=>⟨rfl,by show s.nodes≤_;simp⟩
 | x::xs,s,h=>by
  have e:((x::xs).length:Int) * B=B+(xs.length:Int) * B:=by
   rw[List.length_cons]
   rw[show((xs.length+1:Nat):Int)=(xs.length:Int)+1 by omega,Int.add_mul,Int.one_mul,Int.add_comm]
  have h0:0≤(xs.length:Int) * B:=Int.mul_nonneg (by omega) hB
  rw[e] at h ⊢
  have h1:=hf x s (by omega)
  rw[rowRun,if_pos h1.1]
  have h2:=rowRun_bd hB hf xs (f x s).1 (by omega)
  exact⟨h2.1,by omega⟩
theorem hunt_bd (hn:v.Seats.length≤9):∀(d:Nat) (r:List Int) (s:HS),s.nodes+nB d≤fuel→(hunt v L P fuel d r s).2=true∧(hunt v L P fuel d r s).1.nodes≤s.nodes+nB d
 | 0,r,s,h=>by
  have hl:=leaf_mono (v:=v) (L:=L) (P:=P) (r:=r) s
  rw[nB] at h ⊢
  rw[hunt,if_neg (by omega)]
  exact⟨rfl,by show(leafS v L P r s).nodes≤_;omega⟩
 | d+1,r,s,h=>by
  have hp:=nB_pos d
  have hrl:=rowL_len (v:=v) (L:=L) (P:=P) (r:=r)
  rw[nB] at h ⊢
  rw[hunt,if_neg (by omega)]
  split
  ·have hle:((rowL v L P r).length:Int) * nB d≤10 * nB d:=Int.mul_le_mul_of_nonneg_right (by omega) (by omega)
   have:=rowRun_bd (fuel:=fuel) (f:=fun x s=>hunt v L P fuel d (r++[x]) s) (B:=nB d) (by omega) (fun x s hs=>hunt_bd hn d (r++[x]) s hs) (rowL v L P r) ⟨s.plan,s.most,s.nodes+1,s.tree++[true]⟩ (by show s.nodes+1+_≤fuel;omega)
   exact⟨this.1,by have h2:_≤s.nodes+1+((rowL v L P r).length:Int) * nB d:=this.2;omega⟩
  ·exact⟨rfl,by show s.nodes+1≤_;omega⟩
theorem nB_4 {d:Nat} (h:d≤4):nB d≤11111:=by
 have:d=0∨d=1∨d=2∨d=3∨d=4:=by omega
 rcases this with rfl | rfl | rfl | rfl | rfl <;> decide
theorem search_Best_eq (hc:BCtx v L P) (hf0:0≤fuel) (hf:fuel≤1073741824):search_Best 20000 v L P fuel=some (resR v L P fuel,0):=by
 have hv:=hc.small
 have h4:=hc.pr.l4
 have hP4:=hc.l4
 have hI:=hc.pr.inn hc.ok
 have hst:=StateP_nil hI
 have hpp:=pinPlan_P hv hI
 have eN:=prop_New_eq (k:=20000) (L:=L) (P:=P) hv (by omega) (by omega) (by omega) (pins_ok hv hc.ok)
 rw[dB_T hI,if_pos rfl] at eN
 obtain⟨lv,p,st,eR⟩:=hunt_run_eq hc hf
 have hpl:=hunt_plan (fuel:=fuel) hv L.length [] (s0 L P) (by simp) hst ⟨hpp,rfl⟩
 have hpl:PlanI v L P (huntR v L P fuel).1:=hpl
 have hlen:=hpl.1.len
 unfold search_Best
 rw[bindS eN]
 dsimp only
 rw[optc_some,condNT rfl,condN (by omega),bindS rfl,condN (by omega),bindS (search_Least_eq hv (by omega) hI (by omega)),bindS (plan_Seated_eq hc.pr.all (by omega) (by omega) hpp.len),bindS eR]
 dsimp only
 unfold resR ansI
 cases (huntR v L P fuel).2
 ·rw[cNF,if_neg (by simp)]
 ·rw[cNT,bindS (plan_Full_eq (by omega) (by omega)),if_pos rfl]
  cases dB (FullP L (huntR v L P fuel).1.plan)
  ·rw[cond_false,if_neg (by simp)]
  ·rw[cond_true,if_pos rfl]
structure SCtx (v:Venue) (L:List Party) (P:List Pin) (N:Int):Prop where
 c:BCtx v L P
 ok:(huntR v L P 1073741824).2=true
 n:(huntR v L P 1073741824).1.nodes=N
 n1:1≤N
 n2:N≤11111
theorem SCtx_of (hc:BCtx v L P):∃N,SCtx v L P N:=by
 have hb:=nB_4 hc.pr.l4
 have h:=hunt_bd (fuel:=1073741824) (L:=L) (P:=P) hc.pr.n1 L.length [] (s0 L P) (by show(0:Int)+_≤_;omega)
 have hu:=hunt_used (v:=v) (L:=L) (P:=P) (fuel:=1073741824) L.length [] (s0 L P) h.1
 have h2:(huntR v L P 1073741824).1.nodes≤0+nB L.length:=h.2
 have hu2:0+1≤(huntR v L P 1073741824).1.nodes:=hu.2
 exact⟨_,hc,h.1,rfl,by omega,by omega⟩
theorem huntR_plan (hc:BCtx v L P):PlanI v L P (huntR v L P fuel).1 :=
 hunt_plan (fuel:=fuel) hc.small L.length [] (s0 L P) (by simp) (StateP_nil (hc.pr.inn hc.ok)) ⟨pinPlan_P hc.small (hc.pr.inn hc.ok),rfl⟩
end
end Go.Px

set_option linter.unusedVariables false
set_option linter.unusedSimpArgs false
namespace Go.Px
open Go Go.Sh
section
variable {k:Nat} {v:Venue} {L:List Party} {P:List Pin} {r:List Int} {fuel:Int}
end
end Go.Px

set_option linter.unusedVariables false
set_option linter.unusedSimpArgs false
namespace Go.Px
open Go Go.Sh
section
variable {k:Nat} {v:Venue} {L:List Party} {P:List Pin} {r:List Int} {fuel m:Int} {t:List Bool}
noncomputable def rowC {σ:Type} (f:Int → σ → σ×Bool):List Int → σ → σ×Bool
 | [],s=>(s,true)
 | x::xs,s=>if (f x s).2=true then rowC f xs (f x s).1 else f x s
noncomputable def chk (v:Venue) (L:List Party) (P:List Pin) (m:Int) (t:List Bool):Nat→List Int→Nat→Nat×Bool
 | 0,r,a=>(a,dB (mostN v L P r L.length≤m))
 | d+1,r,a=>if t.length≤a then (a,false) else if aI t (a:Int)=true then rowC (fun x a=>chk v L P m t d (r++[x]) a) (rowL v L P r) (a+1) else (a+1,dB (mostN v L P r L.length≤m))
/- how many bits are taken -/
theorem rowC_le {f:Int→Nat→Nat×Bool} {n:Nat} (hf:∀x a,a≤n→a≤(f x a).1∧(f x a).1≤n):∀(l:List Int) (a:Nat),a≤n→a≤(rowC f l a).1∧(rowC f l a).1≤n
 | [],a,h=>⟨Nat.le_refl _,h⟩
 | x::xs,a,h=>by
  have h1:=hf x a h
  rw[rowC]
  split
  ·have h2:=rowC_le hf xs (f x a).1 h1.2
   exact⟨by omega,h2.2⟩
  ·exact h1
theorem chk_le:∀(d:Nat) (r:List Int) (a:Nat),a≤t.length→a≤(chk v L P m t d r a).1∧(chk v L P m t d r a).1≤t.length
 | 0,r,a,h=>by rw[chk];exact⟨Nat.le_refl _,h⟩
 | d+1,r,a,h=>by
  rw[chk]
  split
  ·exact⟨Nat.le_refl _,h⟩
  ·split
   ·have:=rowC_le (f:=fun x a=>chk v L P m t d (r++[x]) a) (n:=t.length) (fun x a ha=>chk_le d (r++[x]) a ha) (rowL v L P r) (a+1) (by omega)
    exact⟨by omega,this.2⟩
   ·exact⟨by show a≤a+1;omega,by show a+1≤t.length;omega⟩
/- a row that holds bounds all plans -/
/- bits behind change nothing -/
theorem rowC_pre {f g:Int→Nat→Nat×Bool} (hf:∀x a,(f x a).2=true→g x a=f x a):∀(l:List Int) (a:Nat),(rowC f l a).2=true→rowC g l a=rowC f l a
 | [],a,_=>rfl
 | x::xs,a,ho=>by
  rw[rowC] at ho
  rw[rowC,rowC]
  by_cases h1:(f x a).2=true
  ·rw[if_pos h1] at ho
   have e:=hf x a h1
   rw[e,if_pos h1,if_pos h1]
   exact rowC_pre hf xs _ ho
  ·rw[if_neg h1] at ho
   exact absurd ho h1
theorem chk_pre {y:List Bool} : ∀(d:Nat) (r:List Int) (a:Nat),(chk v L P m t d r a).2=true→chk v L P m (t++y) d r a=chk v L P m t d r a
 | 0,r,a,_=>rfl
 | d+1,r,a,ho=>by
  rw[chk] at ho
  rw[chk,chk]
  by_cases h1:t.length≤a
  ·rw[if_pos h1] at ho;cases ho
  ·rw[if_neg h1] at ho
   rw[if_neg h1,if_neg (by rw[List.length_append];omega),aI_lt (by omega)]
   by_cases h2:aI t (a:Int)=true
   ·rw[if_pos h2] at ho
    rw[if_pos h2,if_pos h2]
    exact rowC_pre (fun x a h=>chk_pre d (r++[x]) a h) _ _ ho
   ·rw[if_neg h2,if_neg h2]
/- the least row -/
/- the search's own bits -/
theorem rowRun_tree {f:Int→HS→HS×Bool} (hx:∀x s,∃T,(f x s).1.tree=s.tree++T):∀(l:List Int) (s:HS),∃T,(rowRun f l s).1.tree=s.tree++T
 | [],s=>⟨[],by rw[List.append_nil];rfl⟩
 | x::xs,s=>by
  obtain⟨T,h1⟩:=hx x s
  rw[rowRun]
  split
  ·obtain⟨T2,h2⟩:=rowRun_tree hx xs (f x s).1
   exact⟨T++T2,by rw[h2,h1,List.append_assoc]⟩
  ·exact⟨T,h1⟩
theorem hunt_tree:∀(d:Nat) (r:List Int) (s:HS),∃T,(hunt v L P fuel d r s).1.tree=s.tree++T
 | 0,r,s=>by
  rw[hunt]
  split
  ·exact⟨[],by rw[List.append_nil]⟩
  ·unfold leafS
   split <;> exact⟨[],by rw[List.append_nil]⟩
 | d+1,r,s=>by
  rw[hunt]
  split
  ·exact⟨[],by rw[List.append_nil]⟩
  ·split
   ·obtain⟨T,h⟩:=rowRun_tree (f:=fun x s=>hunt v L P fuel d (r++[x]) s) (fun x s=>hunt_tree d (r++[x]) s) (rowL v L P r) ⟨s.plan,s.most,s.nodes+1,s.tree++[true]⟩
    exact⟨[true]++T,by rw[h];exact List.append_assoc _ _ _⟩
   ·exact⟨[false],rfl⟩
theorem rowRun_chk {f:Int→HS→HS×Bool} {g:List Bool→Int→Nat→Nat×Bool} (hx:∀x s,∃T,(f x s).1.tree=s.tree++T) (hm:∀x s,s.nodes≤(f x s).1.nodes∧s.most≤(f x s).1.most) (hf:∀x s y,(f x s).2=true→(f x s).1.most≤m→g ((f x s).1.tree++y) x s.tree.length=((f x s).1.tree.length,true)):∀(l:List Int) (s:HS) (y:List Bool),(rowRun f l s).2=true→(rowRun f l s).1.most≤m→rowC (g ((rowRun f l s).1.tree++y)) l s.tree.length=((rowRun f l s).1.tree.length,true)
 | [],s,y,_,_=>rfl
 | x::xs,s,y,ho,hmm=>by
  have e:rowRun f (x::xs) s=if (f x s).2=true then rowRun f xs (f x s).1 else f x s:=rfl
  rw[e] at ho hmm ⊢
  by_cases h1:(f x s).2=true
  ·rw[if_pos h1] at ho hmm ⊢
   obtain⟨T,hT⟩:=rowRun_tree hx xs (f x s).1
   have hmo:=rowRun_mono hm xs (f x s).1
   have h2:=hf x s (T++y) h1 (by omega)
   rw[← List.append_assoc,← hT] at h2
   have ih:=rowRun_chk hx hm hf xs (f x s).1 y ho hmm
   rw[rowC,h2,if_pos rfl]
   exact ih
  ·rw[if_neg h1] at ho
   exact absurd ho h1
theorem hunt_chk:∀(d:Nat) (r:List Int) (s:HS) (y:List Bool),(hunt v L P fuel d r s).2=true→(hunt v L P fuel d r s).1.most≤m→chk v L P m ((hunt v L P fuel d r s).1.tree++y) d r s.tree.length=((hunt v L P fuel d r s).1.tree.length,true)
 | 0,r,s,y,ho,hm=>by
  rw[hunt] at ho hm ⊢
  by_cases h1:fuel≤s.nodes
  ·rw[if_pos h1] at ho;cases ho
  ·rw[if_neg h1] at hm ⊢
   rw[chk]
   unfold leafS at hm ⊢
   by_cases h2:s.most < mostN v L P r L.length
   ·rw[if_pos h2] at hm ⊢
    rw[dB_T hm]
   ·rw[if_neg h2] at hm ⊢
    have hm:s.most≤m:=hm
    rw[dB_T (by omega)]
 | d+1,r,s,y,ho,hm=>by
  rw[hunt] at ho hm ⊢
  by_cases h1:fuel≤s.nodes
  ·rw[if_pos h1] at ho;cases ho
  ·rw[if_neg h1] at ho hm ⊢
   by_cases h2:s.most < mostN v L P r L.length
   ·rw[if_pos h2] at ho hm ⊢
    obtain⟨T,hT⟩:=rowRun_tree (f:=fun x s=>hunt v L P fuel d (r++[x]) s) (fun x s=>hunt_tree d (r++[x]) s) (rowL v L P r) ⟨s.plan,s.most,s.nodes+1,s.tree++[true]⟩
    have h3:=rowRun_chk (m:=m) (f:=fun x s=>hunt v L P fuel d (r++[x]) s) (g:=fun t x a=>chk v L P m t d (r++[x]) a) (fun x s=>hunt_tree d (r++[x]) s) (fun x s=>hunt_mono d (r++[x]) s) (fun x s y a b=>hunt_chk d (r++[x]) s y a b) (rowL v L P r) ⟨s.plan,s.most,s.nodes+1,s.tree++[true]⟩ y ho hm
    have hT:_=(s.tree++[true])++T:=hT
    rw[chk,if_neg (by rw[hT];simp),if_pos (by rw[hT,List.append_assoc,List.append_assoc,List.singleton_append];unfold aI;simp)]
    have e:(⟨s.plan,s.most,s.nodes+1,s.tree++[true]⟩:HS).tree.length=s.tree.length+1:=by show(s.tree++[true]).length=_;rw[List.length_append,List.length_singleton]
    rw[e] at h3
    exact h3
   ·rw[if_neg h2] at hm ⊢
    have hm:s.most≤m:=hm
    rw[chk,if_neg (by simp),if_neg (by show ¬aI ((s.tree++[false])++y) _=true;rw[List.append_assoc,List.singleton_append];unfold aI;simp),dB_T (by omega)]
    show _=((s.tree++[false]).length,true)
    rw[List.length_append,List.length_singleton]
end
end Go.Px

set_option linter.unusedVariables false
set_option linter.unusedSimpArgs false
namespace Go.Px
open Go Go.Sh
section
variable {k:Nat} {v:Venue} {L:List Party} {P:List Pin} {r:List Int} {m:Int} {t:List Bool} {σ τ ρ:Type}
noncomputable def wlk (v:Venue) (L:List Party) (P:List Pin) (nd:List Int → σ → σ×Bool×Bool) (lf:List Int→Bool):Nat→List Int → σ → σ×Bool
 | 0,r,s=>(s,lf r)
 | d+1,r,s=>if (nd r s).2.1=true then (if (nd r s).2.2=true then rowC (fun x s=>wlk v L P nd lf d (r++[x]) s) (rowL v L P r) (nd r s).1 else ((nd r s).1,true)) else ((nd r s).1,false)
noncomputable def lok (L:List Party) (nd:List Int → σ → σ×Bool×Bool) (lf:List Int→Bool) (r:List Int) (s : σ) : σ×Bool×Bool:=if r.length=L.length then (s,lf r,false) else nd r s
def bN:Nat→Nat
 | 0=>0
 | d+1=>1+10 * bN d
theorem rowC_sz {f:Int → σ → σ×Bool} {sz : σ→Nat} {b:Nat} (hf:∀x s,sz (f x s).1≤sz s+b):∀(l:List Int) (s : σ),sz (rowC f l s).1≤sz s+l.length * b
 | [],s=>by show sz s≤_;omega
 | x::xs,s=>by
  have h1:=hf x s
  have h2:=rowC_sz hf xs (f x s).1
  rw[rowC,List.length_cons,Nat.succ_mul]
  split <;> omega
theorem wlk_sz (hn:v.Seats.length≤9) {nd:List Int → σ → σ×Bool×Bool} {lf:List Int→Bool} {sz : σ→Nat} (hs:∀r s,sz (nd r s).1≤sz s+1):∀(d:Nat) (r:List Int) (s : σ),sz (wlk v L P nd lf d r s).1≤sz s+bN d
 | 0,r,s=>Nat.le_refl _
 | d+1,r,s=>by
  have h1:=hs r s
  have h2:=rowC_sz (f:=fun x s=>wlk v L P nd lf d (r++[x]) s) (sz:=sz) (fun x s=>wlk_sz hn hs d (r++[x]) s) (rowL v L P r) (nd r s).1
  have h3:=rowL_len (v:=v) (L:=L) (P:=P) (r:=r)
  have h4:(rowL v L P r).length * bN d≤10 * bN d:=Nat.mul_le_mul_right _ (by omega)
  rw[wlk,bN]
  split
  ·split
   ·omega
   ·show sz (nd r s).1≤_;omega
  ·show sz (nd r s).1≤_;omega
structure CMach (v:Venue) (L:List Party) (P:List Pin) (nd:List Int → σ → σ×Bool×Bool) (lf:List Int→Bool) (sz : σ→Nat) (enc : σ → τ) (F:Nat→List (List (List Int))→List Int → τ→List CertRow→Bool→Option ρ):Prop where
 pop:∀(n:Nat) (r:List Int) (s : σ) (st:List CertRow),r.length≤1000→st.length≤1000→F (n+1) (lvsL v L P r) r (enc s) (st++[CertRow.mk (rowL v L P r) ((rowL v L P r).length:Int)]) true=F n (lvsL v L P (upR r)) (upR r) (enc s) st true
 push:∀(r:List Int) (s : σ) (st:List CertRow) (a:Nat),a < (rowL v L P r).length→StateP v L P r→r.length < L.length→st.length≤1000→sz s≤100000→∃r2 st2,(∀n,F (n+1) (lvsL v L P r) r (enc s) (st++[CertRow.mk (rowL v L P r) (a:Int)]) true=F n (lvsL v L P r2) r2 (enc (lok L nd lf (r++[aI (rowL v L P r) (a:Int)]) s).1) st2 (lok L nd lf (r++[aI (rowL v L P r) (a:Int)]) s).2.1) ∧
  ((lok L nd lf (r++[aI (rowL v L P r) (a:Int)]) s).2.1=true→if (lok L nd lf (r++[aI (rowL v L P r) (a:Int)]) s).2.2=true then r2=r++[aI (rowL v L P r) (a:Int)]∧st2=(st++[CertRow.mk (rowL v L P r) ((a+1:Nat):Int)])++[CertRow.mk (rowL v L P (r++[aI (rowL v L P r) (a:Int)])) 0] else r2=r∧st2=st++[CertRow.mk (rowL v L P r) ((a+1:Nat):Int)])
section
variable {nd:List Int → σ → σ×Bool×Bool} {lf:List Int→Bool} {sz : σ→Nat} {enc : σ → τ} {F:Nat→List (List (List Int))→List Int → τ→List CertRow→Bool→Option ρ}
def AfterP (v:Venue) (L:List Party) (P:List Pin) (q : σ×Bool×Bool) (r:List Int) (st:List CertRow) (r2:List Int) (st2:List CertRow):Prop:=q.2.1=true→if q.2.2=true then r2=r∧st2=st++[CertRow.mk (rowL v L P r) 0] else r2=upR r∧st2=st
def EndP (F:Nat→List (List (List Int))→List Int → τ→List CertRow→Bool→Option ρ) (enc : σ → τ) (v:Venue) (L:List Party) (P:List Pin) (b:Nat) (lv:List (List (List Int))) (r2:List Int) (s : σ) (st2:List CertRow) (g:Bool) (w : σ×Bool) (r:List Int) (st:List CertRow):Prop :=
 ∃(c:Nat) (r3:List Int) (st3:List CertRow),c≤b∧(∀n,F (n+c) lv r2 (enc s) st2 g=F n (lvsL v L P r3) r3 (enc w.1) st3 w.2)∧(w.2=true→r3=upR r∧st3=st)
theorem cmach_row (hM:CMach v L P nd lf sz enc F) (hs1:∀r s,sz (nd r s).1≤sz s+1) (hv:Small k v) (hn9:v.Seats.length≤9) {d:Nat}
  (hmain:∀(r:List Int) (s : σ) (st:List CertRow) (r2:List Int) (st2:List CertRow),r.length+d=L.length→StateP v L P r→sz s+bN d≤100000→st.length≤r.length+1→AfterP v L P (lok L nd lf r s) r st r2 st2→EndP F enc v L P (stepsB d) (lvsL v L P r2) r2 (lok L nd lf r s).1 st2 (lok L nd lf r s).2.1 (wlk v L P nd lf d r s) r st)
  (hr:r.length+(d+1)=L.length) (hst:StateP v L P r) {st:List CertRow} (hsl:st.length≤r.length+1):∀(e a:Nat) (s : σ),a+e=(rowL v L P r).length→sz s+e * bN d≤100000 →
  EndP F enc v L P (e * (1+stepsB d)+1) (lvsL v L P r) r s (st++[CertRow.mk (rowL v L P r) (a:Int)]) true (rowC (fun x s=>wlk v L P nd lf d (r++[x]) s) ((rowL v L P r).drop a) s) r st:=by
 have hlen:=hst.inn.2.2.1
 intro e
 induction e with
 | zero =>
  intro a s ha hs
  obtain rfl:a=(rowL v L P r).length:=by omega
  refine⟨1,upR r,st,by omega,fun n=>?_,fun _=>⟨rfl,rfl⟩⟩
  rw[List.drop_length]
  exact hM.pop n r s st (by omega) (by omega)
 | succ e ih =>
  intro a s ha hs
  rw[Nat.succ_mul] at hs
  have hnx:=rowL_next hv hst (by omega) (aI_mem (l:=rowL v L P r) (x:=(a:Int)) (by omega) (by omega))
  have hdrop:=drop_aI (l:=rowL v L P r) (i:=a) (by omega)
  obtain⟨r2,st2,h1,h2⟩:=hM.push r s st a (by omega) hst (by omega) (by omega) (by omega)
  generalize aI (rowL v L P r) (a:Int)=x at h1 h2 hnx hdrop
  have hst':=hnx.state hv
  have hl':(r++[x]).length=r.length+1:=by simp
  have hup:upR (r++[x])=r:=upR_snoc
  obtain⟨c1,r3,st3,b1,b2,b3⟩:=hmain (r++[x]) s (st++[CertRow.mk (rowL v L P r) ((a+1:Nat):Int)]) r2 st2 (by omega) hst' (by omega) (by rw[List.length_append,List.length_singleton];omega) (fun h=>by
   have:=h2 h
   rw[hup]
   exact this)
  rw[hdrop,rowC]
  cases hok:(wlk v L P nd lf d (r++[x]) s).2
  ·rw[if_neg (by simp)]
   rw[hok] at b2
   refine⟨c1+1,r3,st3,?_,fun n=>?_,fun h=>?_⟩
   ·rw[Nat.succ_mul];omega
   ·rw[show n+(c1+1)=(n+c1)+1 by omega,h1,b2,hok]
   ·rw[hok] at h;cases h
  ·rw[if_pos rfl]
   obtain⟨e1,e2⟩:=b3 hok
   rw[hok] at b2
   rw[hup] at e1
   have hsz:=wlk_sz (v:=v) (L:=L) (P:=P) hn9 (nd:=nd) (lf:=lf) (sz:=sz) hs1 d (r++[x]) s
   obtain⟨c2,r4,st4,d1,d2,d3⟩:=ih (a+1) (wlk v L P nd lf d (r++[x]) s).1 (by omega) (by omega)
   refine⟨c1+c2+1,r4,st4,?_,fun n=>?_,d3⟩
   ·rw[Nat.succ_mul];omega
   ·rw[show n+(c1+c2+1)=((n+c2)+c1)+1 by omega,h1,b2,e1,e2,d2]
theorem cmach_main (hM:CMach v L P nd lf sz enc F) (hs1:∀r s,sz (nd r s).1≤sz s+1) (hv:Small k v) (hn9:v.Seats.length≤9):∀(d:Nat) (r:List Int) (s : σ) (st:List CertRow) (r2:List Int) (st2:List CertRow),r.length+d=L.length→StateP v L P r→sz s+bN d≤100000→st.length≤r.length+1→AfterP v L P (lok L nd lf r s) r st r2 st2→EndP F enc v L P (stepsB d) (lvsL v L P r2) r2 (lok L nd lf r s).1 st2 (lok L nd lf r s).2.1 (wlk v L P nd lf d r s) r st
 | 0,r,s,st,r2,st2,hr,hst,hs,hsl,hA=>by
  have e:lok L nd lf r s=(s,lf r,false):=by unfold lok;rw[if_pos (by omega)]
  unfold AfterP at hA
  rw[e] at hA ⊢
  refine⟨0,r2,st2,Nat.le_refl _,fun n=>rfl,fun h=>?_⟩
  have:=hA h
  rw[if_neg (by simp)] at this
  exact this
 | d+1,r,s,st,r2,st2,hr,hst,hs,hsl,hA=>by
  have hrl:=rowL_len (v:=v) (L:=L) (P:=P) (r:=r)
  have e:lok L nd lf r s=nd r s:=by unfold lok;rw[if_neg (by omega)]
  unfold AfterP at hA
  rw[e] at hA ⊢
  rw[bN] at hs
  rw[wlk]
  cases h1:(nd r s).2.1
  ·rw[if_neg (by simp)]
   exact⟨0,r2,st2,by omega,fun n=>rfl,fun h=>by cases h⟩
  rw[if_pos rfl]
  have hA:=hA h1
  cases h2:(nd r s).2.2
  ·rw[if_neg (by simp)]
   rw[h2,if_neg (by simp)] at hA
   exact⟨0,r2,st2,by omega,fun n=>rfl,fun _=>hA⟩
  ·rw[if_pos rfl]
   rw[h2,if_pos rfl] at hA
   have hq:=hs1 r s
   have hle:(rowL v L P r).length * bN d≤10 * bN d:=Nat.mul_le_mul_right _ (by omega)
   have:=cmach_row hM hs1 hv hn9 (cmach_main hM hs1 hv hn9 d) hr hst hsl (rowL v L P r).length 0 (nd r s).1 (by omega) (by omega)
   rw[List.drop_zero] at this
   obtain⟨c,r3,st3,b1,b2,b3⟩:=this
   refine⟨c,r3,st3,?_,fun n=>?_,b3⟩
   ·have:(rowL v L P r).length * (1+stepsB d)≤10 * (1+stepsB d):=Nat.mul_le_mul_right _ (by omega)
    rw[stepsB]
    omega
   ·rw[hA.1,hA.2]
    exact b2 n
end
/- the two walks -/
noncomputable def ndC (v:Venue) (L:List Party) (P:List Pin) (m:Int) (t:List Bool) (r:List Int) (a:Nat):Nat×Bool×Bool:=if t.length≤a then (a,false,false) else if aI t (a:Int)=true then (a+1,true,true) else (a+1,dB (mostN v L P r L.length≤m),false)
noncomputable def lfC (v:Venue) (L:List Party) (P:List Pin) (m:Int) (r:List Int):Bool:=dB (mostN v L P r L.length≤m)
theorem wlk_chk:∀(d:Nat) (r:List Int) (a:Nat),wlk v L P (ndC v L P m t) (lfC v L P m) d r a=chk v L P m t d r a
 | 0,r,a=>rfl
 | d+1,r,a=>by
  have hf:(fun x s=>wlk v L P (ndC v L P m t) (lfC v L P m) d (r++[x]) s)=(fun x s=>chk v L P m t d (r++[x]) s):=funext fun x=>funext fun s=>wlk_chk d (r++[x]) s
  rw[wlk,chk,hf]
  unfold ndC
  by_cases h1:t.length≤a
  ·rw[if_pos h1,if_pos h1,if_neg (by simp)]
  ·rw[if_neg h1,if_neg h1]
   by_cases h2:aI t (a:Int)=true
   ·rw[if_pos h2,if_pos h2,if_pos rfl,if_pos rfl]
   ·rw[if_neg h2,if_neg h2]
    cases h3:dB (mostN v L P r L.length≤m)
    ·rw[if_neg (by simp)]
    ·rw[if_pos rfl,if_neg (by simp)]
theorem dB_dec {p:Prop} [Decidable p]:decide p=dB p:=by
 by_cases h:p
 ·rw[dB_T h,decide_eq_true h]
 ·rw[dB_F h,decide_eq_false h]
theorem goOn_F (hr:r.length≤1000) {n s:Int} {t:List Bool} {a:Int} {st:List CertRow} : cert_walk_goOn k (CertWalk.mk (mkP v L P r) n s t a st) false=some (lvsL v L P (upR r),upR r,st):=by
 obtain⟨b,eP⟩:=pop_up (k:=k) (v:=v) (L:=L) (P:=P) hr
 unfold cert_walk_goOn
 rw[cNF,bindS eP]
theorem goOn_T (hst:StateP v L P r) (hr:r.length < L.length) {n s:Int} {t:List Bool} {a:Int} {st:List CertRow} (hsl:st.length≤2000):cert_walk_goOn k (CertWalk.mk (mkP v L P r) n s t a st) true=some (lvsL v L P r,r,st++[CertRow.mk (rowL v L P r) 0]):=by
 unfold cert_walk_goOn
 rw[cNT,bindS (search_Row_eq hst hr),gdD (by simp only[List.length_singleton];omega)]
 rfl
theorem look2_eq (hv:Small k v) (hk:1000 < k) (hst:StateP v L P r) {a:Nat} (ha:a≤100000) {st:List CertRow} (hsl:st.length≤2000) (htl:t.length≤100000) (hat:a≤t.length):∃r2 st2,cert_walk_look k (CertWalk.mk (mkP v L P r) (L.length:Int) m t (a:Int) st)=some (if r.length=L.length then true else (ndC v L P m t r a).2.1,lvsL v L P r2,r2,(((if r.length=L.length then a else (ndC v L P m t r a).1:Nat)):Int),st2) ∧
  (if r.length=L.length then r2=upR r∧st2=st else (ndC v L P m t r a).2.1=true→if (ndC v L P m t r a).2.2=true then r2=r∧st2=st++[CertRow.mk (rowL v L P r) 0] else r2=upR r∧st2=st):=by
 have h1:=hst.inn.2.2.1
 have h2:=hst.len
 unfold cert_walk_look
 dsimp only
 rw[bindS prop_Depth_eq]
 by_cases hr:r.length=L.length
 ·rw[condD (by omega),bindS (goOn_F (by omega)),if_pos hr,if_pos hr]
  exact⟨upR r,st,rfl,by rw[if_pos hr];exact⟨rfl,rfl⟩⟩
 ·rw[condN (by omega),if_neg hr,if_neg hr]
  unfold ndC
  by_cases h3:t.length≤a
  ·rw[condD (by omega),if_pos h3]
   exact⟨r,st,rfl,by rw[if_neg hr];exact fun h=>by cases h⟩
  ·rw[condN (by omega),if_neg h3,bindS (idx_aI (by omega) (by omega)),wr_succ (by omega)]
   cases h4:aI t (a:Int)
   ·rw[cond_false,bindS (prop_Most_eq hv hk hst),dB_dec,bindS rfl,bindS (goOn_F (by omega)),if_neg (by simp)]
    exact⟨upR r,st,rfl,by rw[if_neg hr];exact fun _=>⟨rfl,rfl⟩⟩
   ·rw[cond_true,bindS rfl,bindS (goOn_T hst (by omega) hsl),if_pos rfl]
    exact⟨r,st++[CertRow.mk (rowL v L P r) 0],rfl,by rw[if_neg hr];exact fun _=>⟨rfl,rfl⟩⟩
def szC (t:List Bool) (a:Nat):Nat:=if a≤t.length then a else 200000
theorem szC_nd:∀(r:List Int) (a:Nat),szC t (ndC v L P m t r a).1≤szC t a+1:=fun r a=>by
 unfold ndC szC
 by_cases h:t.length≤a
 ·rw[if_pos h]
  show(if a≤t.length then a else 200000)≤_
  omega
 ·rw[if_neg h]
  have e:(if aI t (a:Int)=true then (a+1,true,true) else (a+1,dB (mostN v L P r L.length≤m),false)).1=a+1:=by split <;> rfl
  rw[e,if_pos (by omega),if_pos (by omega)]
  exact Nat.le_refl _
theorem top_st {st:List CertRow} {x:CertRow} : idx (st++[x]) (st.length:Int)=some x:=by
 refine idx_get (by omega) ?_
 rw[Int.toNat_natCast,List.getElem?_append_right (Nat.le_refl _),Nat.sub_self]
 rfl
theorem len_st {st:List CertRow} {x:CertRow} (h:st.length≤1000):wr (((st++[x]).length:Int)-1)=(st.length:Int):=by
 rw[List.length_append,List.length_singleton,wr_id (by omega) (by omega)]
 omega
theorem set_st {st:List CertRow} {x y:CertRow} : (st++[x]).set st.length y=st++[y]:=by
 rw[List.set_append_right _ _ (Nat.le_refl _),Nat.sub_self]
 rfl
theorem more_eq (hv:Small k v) (hk:1000 < k) (hst:StateP v L P r):(Option.bind (prop_Prop_Depth k (mkP v L P r)) fun r114=>cond (decide (r114=(L.length:Int))) (Option.bind (prop_Prop_Most k (mkP v L P r)) fun r117=>some (decide (m < r117))) (some false))=some (if r.length=L.length then !lfC v L P m r else false):=by
 rw[bindS prop_Depth_eq]
 by_cases h:r.length=L.length
 ·rw[condD (by omega),bindS (prop_Most_eq hv hk hst),if_pos h]
  unfold lfC
  by_cases h2:m < mostN v L P r L.length
  ·rw[decide_eq_true h2,dB_F (by omega)];rfl
  ·rw[decide_eq_false h2,dB_T (by omega)];rfl
 ·rw[condN (by omega),if_neg h]
theorem look_mach (hv:Small k v) (hk:1000 < k) (htl:t.length≤100000) {a0:CertWalk} (h1:a0.p.s=setOf v L P) (h2:a0.n=(L.length:Int)) (h3:a0.seats=m) (h4:a0.t=t):CMach v L P (ndC v L P m t) (lfC v L P m) (szC t) (fun a:Nat=>(a:Int)) (cert_walk_all_look_l0 k a0):=by
 refine⟨fun n r s st hr hsl=>?_,fun r s st a ha hst hr hsl hs=>?_⟩
 ·obtain⟨b,eP⟩:=pop_up (k:=k) (v:=v) (L:=L) (P:=P) hr
  have eP':prop_Prop_Pop k (PropProp.mk (setOf v L P) (lvsL v L P r) r)=_:=eP
  rw[cert_walk_all_look_l0,h1,cond_true,bindS rfl,decide_eq_true (by rw[List.length_append,List.length_singleton];omega),cond_true,len_st hsl,bindS top_st]
  dsimp only
  rw[condD rfl,gdD (by rw[List.length_append,List.length_singleton];omega),bindS eP',Int.toNat_natCast,List.take_left' rfl]
 ·have hlen:=hst.inn.2.2.1
  have hx:idx (rowL v L P r) (a:Int)=some (aI (rowL v L P r) (a:Int)):=idx_aI (by omega) (by omega)
  have hnx:=rowL_next hv hst hr (aI_mem (l:=rowL v L P r) (x:=(a:Int)) (by omega) (by omega))
  have hrl:=rowL_len (v:=v) (L:=L) (P:=P) (r:=r)
  have hvs:=hv.hs
  have hvb:=hv.b
  generalize aI (rowL v L P r) (a:Int)=x at hx hnx
  have hst':=hnx.state hv
  have eP:=prop_Push_eq (k:=k) hv hk hst x
  rw[dB_T hnx,if_pos rfl] at eP
  have eP':prop_Prop_Push k (PropProp.mk (setOf v L P) (lvsL v L P r) r) x=_:=eP
  have hat:s≤t.length∧s≤100000:=by unfold szC at hs;split at hs <;> omega
  obtain⟨r2,st2,eL,hL⟩:=look2_eq (k:=k) (r:=r++[x]) (m:=m) (t:=t) hv hk hst' hat.2 (st:=st++[CertRow.mk (rowL v L P r) ((a+1:Nat):Int)]) (by rw[List.length_append,List.length_singleton];omega) htl hat.1
  have eM:=more_eq (m:=m) hv hk hst'
  have hup:upR (r++[x])=r:=upR_snoc
  rw[hup] at hL
  refine⟨r2,st2,fun n=>?_,fun hg=>?_⟩
  ·have hwa:wr (wr ((a:Int)+1)-1)=(a:Int):=by rw[wr_id (x:=(a:Int)+1) (by omega) (by omega),wr_id (by omega) (by omega)];omega
   rw[cert_walk_all_look_l0,h1,h2,h3,h4,cond_true,bindS rfl,decide_eq_true (by rw[List.length_append,List.length_singleton];omega),cond_true,len_st hsl,bindS top_st]
   dsimp only
   rw[condN (by omega),hwa,bindS hx,bindS eP',wr_succ (by omega),Int.toNat_natCast,set_st]
   dsimp only
   have eM':(Option.bind (prop_Prop_Depth k (PropProp.mk (setOf v L P) (lvsL v L P (r++[x])) (r++[x]))) fun r114=>cond (decide (r114=(L.length:Int))) (Option.bind (prop_Prop_Most k (PropProp.mk (setOf v L P) (lvsL v L P (r++[x])) (r++[x]))) fun r117=>some (decide (m < r117))) (some false))=_:=eM
   have eL':cert_walk_look k (CertWalk.mk (PropProp.mk (setOf v L P) (lvsL v L P (r++[x])) (r++[x])) (L.length:Int) m t (s:Int) (st++[CertRow.mk (rowL v L P r) ((a+1:Nat):Int)]))=_:=eL
   rw[bindS eM',bindS eL']
   dsimp only
   unfold lok
   by_cases hl:(r++[x]).length=L.length
   ·rw[if_pos hl,if_pos hl,if_pos hl,if_pos hl,cond_true,Bool.not_not]
   ·rw[if_neg hl,if_neg hl,if_neg hl,if_neg hl]
    cases (ndC v L P m t (r++[x]) s).2.1
    ·rw[cond_false]
    ·rw[cond_true];rfl
  ·unfold lok at hg ⊢
   by_cases hl:(r++[x]).length=L.length
   ·rw[if_pos hl] at hg hL ⊢
    rw[if_neg (by simp)]
    exact hL
   ·rw[if_neg hl] at hg hL ⊢
    exact hL hg
end
end Go.Px

set_option linter.unusedVariables false
set_option linter.unusedSimpArgs false
namespace Go.Px
open Go Go.Sh
section
variable {k:Nat} {v:Venue} {L:List Party} {P:List Pin} {r:List Int} {fuel m:Int} {t:List Bool}
theorem bN_4 {d:Nat} (h:d≤4):bN d≤1111:=by
 have:d=0∨d=1∨d=2∨d=3∨d=4:=by omega
 rcases this with rfl | rfl | rfl | rfl | rfl <;> decide
noncomputable def chkR (v:Venue) (L:List Party) (P:List Pin) (r:List Int) (t:List Bool):Nat×Bool:=chk v L P (seatN L r L.length) t L.length [] 0
noncomputable def chkB (v:Venue) (L:List Party) (P:List Pin) (r:List Int) (t:List Bool):Bool:=dB (chkR v L P r t=(t.length,true))
theorem root_lf (hm:0≤m) (h:([]:List Int).length=L.length):lfC v L P m []=true:=by
 unfold lfC
 rw[← h]
 exact dB_T hm
theorem all_look_eq (hc:BCtx v L P) (hm:0≤m) (htl:t.length≤100000):∃lv p st,cert_walk_all_look 20000 (CertWalk.mk (mkP v L P []) (L.length:Int) m t 0 [])=some ((chk v L P m t L.length [] 0).2,lv,p,((chk v L P m t L.length [] 0).1:Int),st):=by
 have hv:=hc.small
 have h4:=hc.pr.l4
 have hst:=StateP_nil (hc.pr.inn hc.ok)
 have hM:=look_mach (k:=20000) (L:=L) (P:=P) (m:=m) (t:=t) hv (by omega) htl (a0:=CertWalk.mk (mkP v L P []) (L.length:Int) m t 0 []) rfl rfl rfl rfl
 have hB:=bN_4 h4
 have hS:=stepsB_4 h4
 obtain⟨r2,st2,eL,hL⟩:=look2_eq (k:=20000) (r:=[]) (m:=m) (t:=t) (a:=0) hv (by omega) hst (by omega) (st:=[]) (by simp) htl (by omega)
 have e0:szC t 0=0:=if_pos (by omega)
 obtain⟨c,r3,st3,b1,b2,b3⟩:=cmach_main hM szC_nd hv hc.pr.n1 L.length [] 0 [] r2 st2 (by simp) hst (by rw[e0];omega) (by simp) (by
  unfold AfterP lok
  by_cases hl:([]:List Int).length=L.length
  ·rw[if_pos hl] at hL ⊢
   intro _
   rw[if_neg (by simp)]
   exact hL
  ·rw[if_neg hl] at hL ⊢
   exact hL)
 rw[wlk_chk] at b2 b3
 have eL:cert_walk_look 20000 (CertWalk.mk (mkP v L P []) (L.length:Int) m t 0 [])=_:=eL
 have e:=b2 (20000-c)
 rw[show 20000-c+c=20000 by omega] at e
 obtain⟨n,hn⟩:∃n,20000-c=n+1:=⟨20000-c-1,by omega⟩
 rw[hn] at e
 have hend:cert_walk_all_look_l0 20000 (CertWalk.mk (mkP v L P []) (L.length:Int) m t 0 []) (n+1) (lvsL v L P r3) r3 ((chk v L P m t L.length [] 0).1:Int) st3 (chk v L P m t L.length [] 0).2=some (lvsL v L P r3,r3,((chk v L P m t L.length [] 0).1:Int),st3,(chk v L P m t L.length [] 0).2):=by
  rw[cert_walk_all_look_l0]
  cases hq:(chk v L P m t L.length [] 0).2
  ·rw[cond_false,bindS rfl,cond_false]
  ·rw[(b3 hq).2,cond_true,bindS rfl,decide_eq_false (by simp),cond_false]
 have e2:cert_walk_all_look_l0 20000 (CertWalk.mk (mkP v L P []) (L.length:Int) m t 0 []) 20000 (lvsL v L P r2) r2 ((lok L (ndC v L P m t) (lfC v L P m) [] 0).1:Int) st2 (lok L (ndC v L P m t) (lfC v L P m) [] 0).2.1=_:=e.trans hend
 unfold cert_walk_all_look
 rw[bindS eL]
 dsimp only
 have e3:(if ([]:List Int).length=L.length then true else (ndC v L P m t [] 0).2.1)=(lok L (ndC v L P m t) (lfC v L P m) [] 0).2.1∧(if ([]:List Int).length=L.length then 0 else (ndC v L P m t [] 0).1)=(lok L (ndC v L P m t) (lfC v L P m) [] 0).1:=by
  unfold lok
  by_cases hl:([]:List Int).length=L.length
  ·rw[if_pos hl,if_pos hl,if_pos hl]
   exact⟨(root_lf hm hl).symm,rfl⟩
  ·rw[if_neg hl,if_neg hl,if_neg hl]
   exact⟨rfl,rfl⟩
 rw[e3.1,e3.2,bindS e2]
 exact⟨_,_,_,rfl⟩
theorem seatN_0 (hc:BCtx v L P):0≤seatN L r L.length:=(seatN_bd hc.pr.all (r:=r) (Nat.le_refl _)).1
theorem check_eq (hc:BCtx v L P) (hr:∀i:Nat,i < r.length→okI (aI r (i:Int))) (htl:t.length≤100000):cert_Check 20000 v L P r t=some (if dB (PlanP v L P r)=true then (if chkB v L P r t=true then ((t.length:Int),0) else (0,10)) else (0,1)):=by
 have hv:=hc.small
 have h4:=hc.pr.l4
 have hP4:=hc.l4
 have hI:=hc.pr.inn hc.ok
 have eM:=plan_May_eq (L:=L) hv (by omega) (by omega) (by omega) (pins_ok hv hc.ok) hr
 unfold cert_Check cert_in
 rcases Classical.em (PlanP v L P r) with h | h
 ·have eN:=prop_New_eq (k:=20000) (L:=L) (P:=P) hv (by omega) (by omega) (by omega) (pins_ok hv hc.ok)
  rw[dB_T hI,if_pos rfl] at eN
  rw[dB_T h] at eM ⊢
  obtain⟨lv,p,st,eA⟩:=all_look_eq (t:=t) hc (seatN_0 hc (r:=r)) htl
  have hle:=chk_le (v:=v) (L:=L) (P:=P) (m:=seatN L r L.length) (t:=t) L.length [] 0 (by omega)
  rw[bindS eM,cNT,bindS eN]
  dsimp only
  rw[optc_some,bindS (plan_Seated_eq hc.pr.all (by omega) (by omega) h.len),bindS rfl]
  dsimp only
  rw[optc_some,cNT,List.take_nil,bindS eA,if_pos rfl]
  dsimp only
  unfold chkB chkR
  cases hq:(chk v L P (seatN L r L.length) t L.length [] 0).2
  ·rw[cNF,dB_F (fun h=>by rw[h] at hq;cases hq),if_neg (by simp)]
  ·rw[cNT]
   by_cases hl:(chk v L P (seatN L r L.length) t L.length [] 0).1=t.length
   ·rw[condN (by omega),dB_T (Prod.ext hl hq),if_pos rfl,hl]
   ·rw[condD (by omega),dB_F (fun h=>hl (by rw[h])),if_neg (by simp)]
 ·rw[dB_F h] at eM ⊢
  rw[bindS eM,cNF,bindS rfl,optc_none,cNF,if_neg (by simp)]
theorem holds_eq (hc:BCtx v L P) (hr:∀i:Nat,i < r.length→okI (aI r (i:Int))) (htl:t.length≤100000):cert_Holds 20000 v L P r t=some (dB (PlanP v L P r) && chkB v L P r t):=by
 unfold cert_Holds
 rw[bindS (check_eq hc hr htl)]
 cases dB (PlanP v L P r)
 ·rfl
 ·cases chkB v L P r t <;> rfl
/- what they mean -/
theorem chkB_iff:chkB v L P r t=true ↔ chkR v L P r t=(t.length,true):=dB_iff
theorem chkB_pre {y:List Bool} (h:chkB v L P r t=true) (h2:chkB v L P r (t++y)=true):y=[]:=by
 have h:=chkB_iff.1 h
 have h2:=chkB_iff.1 h2
 have e:=chk_pre (v:=v) (L:=L) (P:=P) (m:=seatN L r L.length) (t:=t) (y:=y) L.length [] 0 (by have:=congrArg Prod.snd h;exact this)
 have e2:chkR v L P r (t++y)=chkR v L P r t:=e
 rw[e2,h] at h2
 have:=congrArg Prod.fst h2
 have:t.length=(t++y).length:=this
 rw[List.length_append] at this
 exact List.length_eq_zero_iff.1 (by omega)
theorem tree_holds (hc:BCtx v L P) (ho:(huntR v L P fuel).2=true):chkB v L P (huntR v L P fuel).1.plan (huntR v L P fuel).1.tree=true:=by
 have hp:=huntR_plan (fuel:=fuel) hc
 have e:=hunt_chk (v:=v) (L:=L) (P:=P) (fuel:=fuel) (m:=seatN L (huntR v L P fuel).1.plan L.length) L.length [] (s0 L P) [] ho (by rw[hp.2];exact Int.le_refl _)
 rw[List.append_nil] at e
 exact chkB_iff.2 e
theorem tree_len (hc:BCtx v L P) {N:Int} (h:SCtx v L P N):(huntR v L P 1073741824).1.tree.length≤11111:=by
 have h1:=(hunt_inv (v:=v) (L:=L) (P:=P) (fuel:=1073741824) L.length [] (s0 L P) s0_inv).t
 have h1:((huntR v L P 1073741824).1.tree.length:Int)≤(huntR v L P 1073741824).1.nodes:=h1
 have h2:=h.n
 have h3:=h.n2
 omega
end
end Go.Px

set_option linter.unusedVariables false
set_option linter.unusedSimpArgs false
namespace Go.Px
open Go Go.Sh
theorem law17_told_eq:law17_told 20000=some true:=by decide +kernel
theorem CertCut_true (a0:List Int) (h0:okLI a0) (a1:List Int) (h1:okLI a1) (a2:Int) (h2:okI a2) (a3:Int) (h3:okI a3) (a4:Bool) (h4:okB a4):∃k,law17_CertCut k a0 a1 a2 a3 a4=some true:=by
 refine⟨20000,?_⟩
 obtain⟨v,L,e,hp⟩:=law12_Small_eq (k:=20000) a0 a1 (by omega)
 have hv:=hp.small (k:=20000) (by omega) (by omega)
 obtain⟨P,e3,hPl,hP⟩:=law12_Pins_eq hp (k:=20000) (by omega) (by omega) a2
 have hc:BCtx v L P:=⟨hp,hPl,hP⟩
 obtain⟨N,hN⟩:=SCtx_of hc
 have hpl:=(huntR_plan (fuel:=1073741824) hc).1
 have hho:=tree_holds hc hN.ok
 have htl:=tree_len hc hN
 unfold law17_CertCut
 rw[bindS e]
 dsimp only
 rw[bindS e3,bindS (search_Best_eq hc (by omega) (by omega))]
 dsimp only
 have eT:(resR v L P 1073741824).Tree=(huntR v L P 1073741824).1.tree:=rfl
 have eP:(resR v L P 1073741824).Plan=(huntR v L P 1073741824).1.plan:=rfl
 rw[condNT rfl,eT,eP]
 generalize (huntR v L P 1073741824).1.tree=t at hho htl
 generalize (huntR v L P 1073741824).1.plan=r at hho hpl
 have hok:=hpl.ok hv
 have e1:chkB v L P r (t++[a4])=false:=by
  cases hq:chkB v L P r (t++[a4])
  ·rfl
  ·cases chkB_pre hho hq
 rw[gdD (by simp only[List.length_nil];omega),List.nil_append,gdD (by simp only[List.length_singleton];omega),bindS (holds_eq hc hok (by rw[List.length_append,List.length_singleton];omega)),e1,Bool.and_false,cond_false]
 by_cases hz:(t.length:Int)=0
 ·rw[condD hz,bindS law17_told_eq]
 ·have hw:IntKind.u64.wrap (t.length:Int)=(t.length:Int):=wu_id (by omega) (by omega)
  obtain⟨u0,u1⟩:=um a3 (t.length:Int) (by omega)
  rw[condN hz,bindS law17_told_eq,cond_true,gdD (by rw[hw];omega),hw,wr_id (x:=(IntKind.u64.wrap a3).tmod (t.length:Int)) (by omega) (by omega)]
  generalize (IntKind.u64.wrap a3).tmod (t.length:Int)=w at u0 u1
  rw[bindS (slc_eq (by omega)),Int.toNat_zero,Nat.sub_zero,List.drop_zero]
  have e2:chkB v L P r (t.take w.toNat)=false:=by
   cases hq:chkB v L P r (t.take w.toNat)
   ·rfl
   ·have hh:=hho
    rw[← List.take_append_drop w.toNat t] at hh
    have:=chkB_pre hq hh
    have:=congrArg List.length this
    rw[List.length_drop,List.length_nil] at this
    omega
  rw[bindS (holds_eq hc hok (by rw[List.length_take];omega)),e2,Bool.and_false]
  rfl
end Go.Px
