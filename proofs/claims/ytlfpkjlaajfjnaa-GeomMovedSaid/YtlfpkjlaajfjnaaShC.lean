/- Regions that draw their order; the rules for the rest of the code; contracts out of walks. -/
import Derived.Test.YtlfpkjlaajfjnaaShB
set_option linter.unusedVariables false
set_option linter.unusedSimpArgs false
namespace Go.Sh
open Go.RowKit

def ancs:List Oper→List Nat→List Nat
 | [],acc=>acc
 | o::r,acc=>ancs r (acc++[o.after.toList.foldl (fun m e=>bif Region.binds .any e then m ||| (1 <<< e.on) ||| acc.getD e.on 0 else m) 0])

def Closed (ops:Array Oper) (L:Nat→Prop):Prop:=∀(i:Nat) (o:Oper) (e:Edge),ops[i]?=some o→L i→e ∈ o.after→Region.binds .any e=true→L e.on

theorem fold_bits (L:Nat→Prop) (acc:List Nat) (hacc:∀k j,(acc.getD k 0).testBit j=true→L k→L j) :
  ∀(es:List Edge) (m:Nat),(∀j,m.testBit j=true→L j)→(∀e,e ∈ es→Region.binds .any e=true→L e.on) →
   ∀j,(es.foldl (fun m e=>bif Region.binds .any e then m ||| (1 <<< e.on) ||| acc.getD e.on 0 else m) m).testBit j=true→L j
 | [],m,hm,_,j,h=>hm j h
 | e::es,m,hm,he,j,h=>by
  refine fold_bits L acc hacc es _ ?_ (fun e' h'=>he e' (by simp [h'])) j h
  intro k hk
  cases hb:Region.binds .any e with
  | false=>simp only[hb,cond_false] at hk;exact hm k hk
  | true =>
   simp only[hb] at hk
   simp only[cond_true,Nat.testBit_or,Bool.or_eq_true] at hk
   rcases hk with(hk | hk) | hk
   ·exact hm k hk
   ·have:k=e.on:=by
     rw[Nat.testBit_shiftLeft] at hk
     simp only[Bool.and_eq_true,decide_eq_true_eq] at hk
     obtain⟨h1,h2⟩:=hk
     have:=Nat.testBit_one_eq_true_iff_self_eq_zero.1 h2
     omega
    subst this
    exact he e (by simp) hb
   ·exact hacc e.on k hk (he e (by simp) hb)

theorem ancs_ok (ops:Array Oper) (L:Nat→Prop) (hc:Closed ops L):∀(r:List Oper) (acc:List Nat),(∀k o,r[k]?=some o→ops[acc.length+k]?=some o) →
  (∀k j,(acc.getD k 0).testBit j=true→L k→L j)→(∀k j,(acc.getD k 0).testBit j=true→(∀(o:Oper) (e:Edge),ops[k]?=some o→e ∈ o.after→Region.binds .any e=true→L e.on)→L j) →
  ∀k j,((ancs r acc).getD k 0).testBit j=true→(∀(o:Oper) (e:Edge),ops[k]?=some o→e ∈ o.after→Region.binds .any e=true→L e.on)→L j
 | [],acc,_,_,h2,k,j,h,hp=>h2 k j h hp
 | o::r,acc,hr,h1,h2,k,j,h,hp=>by
  have ho:ops[acc.length]?=some o:=hr 0 o rfl
  have hnew:∀j,(o.after.toList.foldl (fun m e=>bif Region.binds .any e then m ||| (1 <<< e.on) ||| acc.getD e.on 0 else m) 0).testBit j=true →
    (∀(o':Oper) (e:Edge),ops[acc.length]?=some o'→e ∈ o'.after→Region.binds .any e=true→L e.on)→L j:=by
   intro j hj hp
   exact fold_bits L acc h1 o.after.toList 0 (fun j hj=>by simp at hj) (fun e he hb=>hp o e ho (by simpa using he) hb) j hj
  have app:∀(v k:Nat),(acc++[v]).getD k 0=if k < acc.length then acc.getD k 0 else if k=acc.length then v else 0:=by
   intro v k
   simp only[List.getD_eq_getElem?_getD]
   by_cases hk:k < acc.length
   ·rw[if_pos hk,List.getElem?_append_left hk]
   ·rw[if_neg hk,List.getElem?_append_right (by omega)]
    by_cases hk':k=acc.length
    ·subst hk';simp
    ·rw[if_neg hk']
     have:k-acc.length ≠ 0:=by omega
     cases hq:k-acc.length with
     | zero=>omega
     | succ n=>simp
  have h2':∀k j,((acc++[o.after.toList.foldl (fun m e=>bif Region.binds .any e then m ||| (1 <<< e.on) ||| acc.getD e.on 0 else m) 0]).getD k 0).testBit j=true →
    (∀(o:Oper) (e:Edge),ops[k]?=some o→e ∈ o.after→Region.binds .any e=true→L e.on)→L j:=by
   intro k j hj hp
   rw[app] at hj
   split at hj
   ·exact h2 k j hj hp
   ·split at hj
    ·rename_i hk;subst hk;exact hnew j hj hp
    ·simp at hj
  refine ancs_ok ops L hc r _ ?_ ?_ h2' k j h hp
  ·intro k o' hk
   rw[List.length_append]
   have:=hr (k+1) o' (by simpa using hk)
   rw[← this]
   congr 1
   simp
   omega
  ·intro k j hj hk
   exact h2' k j hj fun o e ho he hb=>hc k o e ho hk he hb

def ordB (A:List Nat) (i j:Nat):Bool:=(A.getD i 0).testBit j

def pairsB (ops:Array Oper) (M:Msk) (n0:Nat) (A:List Nat):List It→Bool
 | []=>true
 | p::r=>r.all (fun q=>ordB A q.i p.i || niB ops M n0 p q) && pairsB ops M n0 A r

theorem pairsB_get {ops:Array Oper} {M:Msk} {n0:Nat} {A:List Nat} : ∀ {l:List It} (r:List It) (q:It) (p:It),pairsB ops M n0 A (l++q::r)=true→p ∈ l→(ordB A q.i p.i || niB ops M n0 p q)=true
 | [],_,_,_,_,h=>by cases h
 | p'::l,r,q,p,h,hp=>by
  simp only[List.cons_append,pairsB,Bool.and_eq_true] at h
  rcases List.mem_cons.1 hp with rfl | hp
  ·exact List.all_eq_true.1 h.1 q (by simp)
  ·exact pairsB_get r q p h.2 hp
theorem pairsB_del {ops:Array Oper} {M:Msk} {n0:Nat} {A:List Nat} : ∀ {l r:List It} {q:It},pairsB ops M n0 A (l++q::r)=true→pairsB ops M n0 A (l++r)=true
 | [],r,q,h=>by simp only[List.nil_append,pairsB,Bool.and_eq_true] at h;exact h.2
 | p::l,r,q,h=>by
  simp only[List.cons_append,pairsB,Bool.and_eq_true] at h ⊢
  refine⟨List.all_eq_true.2 fun q' hq'=>List.all_eq_true.1 h.1 q' ?_,pairsB_del h.2⟩
  simp only[List.mem_append,List.mem_cons] at hq' ⊢
  rcases hq' with h | h <;> simp [h]

theorem wpAny_of_valid {P:Program} {cx:Cx} {ops:Array Oper} {M:Msk} {n0:Nat} {Q:Exit→Act→World→Prop} {st0:St} (hfw:∀(i:Nat) (o:Oper) (e:Edge),ops[i]?=some o→e ∈ o.after→Region.binds .any e=true→e.on < i) (hQ:∀a w,Rel cx st0 a w→Q .normal a w) :
  ∀(fuel:Nat) (rem:List It) (st:St) (listed:Array Bool) (a:Act) (w:World),ValidD P cx ops M n0 rem st→Rel cx st a w→Eqv (finD ops rem st) st0→listed.size=ops.size→rem.length≤fuel →
   (∀i,i < ops.size→(listed.getD i true=false ↔ ∃it,it ∈ rem∧it.i=i))→(rem.map (·.i)).Pairwise (· < ·)→pairsB ops M n0 (ancs ops.toList []) rem=true→Closed ops (fun i=>listed.getD i false=true) →
   wpAny P .any ops Q fuel listed a w:=by
 intro fuel
 induction fuel with
 | zero =>
  intro rem st listed a w hv hR hf hs hlen hl hnd hp hc
  have hrem:rem=[]:=List.length_eq_zero_iff.1 (by omega)
  subst hrem
  refine⟨?_,hQ a w (hR.eqv hf)⟩
  rw[List.eq_nil_iff_forall_not_mem]
  intro i hi
  simp only[Region.ready,List.mem_filter,List.mem_range,Bool.and_eq_true,Bool.not_eq_true'] at hi
  obtain⟨_,h,_⟩:=(hl i hi.1).1 hi.2.1
  cases h
 | succ fuel ih =>
  intro rem st listed a w hv hR hf hs hlen hl hnd hp hc
  refine⟨fun hr=>?_,?_⟩
  · -- nothing is ready: nothing is left
   cases rem with
   | nil=>exact hQ a w (hR.eqv hf)
   | cons p r =>
    exfalso
    obtain⟨o,ho,_⟩:=hv.1
    have hlt:p.i < ops.size:=by
     rcases Nat.lt_or_ge p.i ops.size with h' | h'
     ·exact h'
     ·rw[Array.getElem?_eq_none h'] at ho;cases ho
    have hun:=(hl p.i hlt).2 ⟨p,by simp,rfl⟩
    have hin:p.i ∈ Region.ready .any ops listed:=by
     simp only[Region.ready,List.mem_filter,List.mem_range,Bool.and_eq_true,Bool.not_eq_true']
     refine⟨hlt,hun,?_⟩
     rw[ho]
     simp only[Option.map_some,Option.getD_some]
     refine Array.all_eq_true_iff_forall_mem.2 fun e he=>?_
     cases hb:Region.binds .any e with
     | false=>rfl
     | true =>
      simp only[Bool.not_true,Bool.false_or]
      have hlt':=hfw p.i o e ho he hb
      cases hle:listed.getD e.on false with
      | true=>rfl
      | false =>
       exfalso
       have:listed.getD e.on true=false:=by
        simp only[Array.getD_eq_getD_getElem?] at hle ⊢
        rw[Array.getElem?_eq_getElem (by omega)] at hle ⊢
        exact hle
       obtain⟨it,hit,hie⟩:=(hl e.on (by omega)).1 this
       rcases List.mem_cons.1 hit with rfl | hit
       ·omega
       ·rw[List.map_cons,List.pairwise_cons] at hnd
        have:=hnd.1 it.i (List.mem_map_of_mem hit)
        omega
    rw[hr] at hin
    cases hin
  ·intro i hi
   simp only[Region.ready,List.mem_filter,List.mem_range,Bool.and_eq_true,Bool.not_eq_true'] at hi
   obtain⟨hi1,hi2,hi3⟩:=hi
   obtain⟨q,hq,rfl⟩:=(hl i hi1).1 hi2
   obtain⟨l,r,rfl⟩:=List.append_of_mem hq
   have hpre:∀(o:Oper) (e:Edge),ops[q.i]?=some o→e ∈ o.after→Region.binds .any e=true→listed.getD e.on false=true:=by
    intro o e ho he hb
    rw[ho] at hi3
    simp only[Option.map_some,Option.getD_some] at hi3
    have:=Array.all_eq_true_iff_forall_mem.1 hi3 e he
    simpa [hb] using this
   have hni:∀p,p ∈ l→niB ops M n0 p q=true:=by
    intro p hp'
    have h1:=pairsB_get r q p hp hp'
    simp only[Bool.or_eq_true] at h1
    rcases h1 with h1 | h1
    ·exfalso
     have hlist:=ancs_ok ops (fun i=>listed.getD i false=true) hc ops.toList [] (fun k o hk=>by simpa using hk) (fun k j hk=>by simp at hk) (fun k j hk=>by simp at hk) q.i p.i h1 hpre
     have hpl:p.i < ops.size:=by
      rcases Nat.lt_or_ge p.i listed.size with h' | h'
      ·omega
      ·simp [h'] at hlist
     have:=(hl p.i hpl).2 ⟨p,by simp [hp'],rfl⟩
     simp [hs,hpl] at this hlist
     rw[this] at hlist
     cases hlist
    ·exact h1
   obtain⟨h1,h2,h3⟩:=bubble l r q st hni hv
   obtain⟨o,ho,hd,hstep⟩:=h1
   have hdst:dstOf ops q.i=o.dst:=by simp [dstOf,ho]
   have hnext:∀a' w',Rel cx (st.ap ops q) a' w'→wpAny P .any ops Q fuel (listed.setIfInBounds q.i true) a' w':=by
    intro a' w' hR'
    have hnd':((l++r).map (·.i)).Pairwise (· < ·)∧∀it,it ∈ l++r→it.i ≠ q.i:=by
     rw[List.map_append,List.map_cons] at hnd
     obtain⟨n1,n2,n3⟩:=List.pairwise_append.1 hnd
     rw[List.pairwise_cons] at n2
     refine⟨?_,?_⟩
     ·rw[List.map_append]
      exact List.pairwise_append.2 ⟨n1,n2.2,fun x hx y hy=>n3 x hx y (by simp [hy])⟩
     ·intro it hit he
      rcases List.mem_append.1 hit with h | h
      ·have:=n3 it.i (List.mem_map_of_mem h) q.i (by simp)
       omega
      ·have:=n2.1 it.i (List.mem_map_of_mem h)
       omega
    refine ih (l++r) _ _ a' w' h2 hR' (h3.trans hf) (by simpa using hs) (by simp at hlen ⊢;omega) ?_ hnd'.1 (pairsB_del hp) ?_
    ·intro i hi
     have hset:(listed.setIfInBounds q.i true).getD i true=if i=q.i then true else listed.getD i true:=by
      rw[Array.getD_eq_getD_getElem?,Array.getElem?_setIfInBounds]
      by_cases h:i=q.i
      ·rw[if_pos h,if_pos h.symm,if_pos (by omega)];rfl
      ·rw[if_neg h,if_neg (fun e=>h e.symm),Array.getD_eq_getD_getElem?]
     rw[hset]
     by_cases h:i=q.i
     ·subst h
      simp only[if_true,Bool.true_eq_false,false_iff]
      rintro ⟨it,hit,he⟩
      exact hnd'.2 it hit he
     ·rw[if_neg h,hl i hi]
      constructor
      ·rintro ⟨it,hit,rfl⟩
       refine⟨it,?_,rfl⟩
       simp only[List.mem_append,List.mem_cons] at hit ⊢
       rcases hit with h' | rfl | h'
       ·exact .inl h'
       ·exact absurd rfl h
       ·exact .inr h'
      ·rintro ⟨it,hit,rfl⟩
       refine⟨it,?_,rfl⟩
       simp only[List.mem_append,List.mem_cons] at hit ⊢
       rcases hit with h' | h' <;> simp [h']
    ·intro i o' e ho' hi he hb
     have hset:∀k,(listed.setIfInBounds q.i true).getD k false=if k=q.i∧k < ops.size then true else listed.getD k false:=by
      intro k
      rw[Array.getD_eq_getD_getElem?,Array.getElem?_setIfInBounds]
      by_cases h:q.i=k
      ·rw[if_pos h]
       by_cases hk:q.i < listed.size
       ·rw[if_pos hk,if_pos ⟨h.symm,by omega⟩];rfl
       ·rw[if_neg hk,if_neg (by omega),Array.getD_eq_getD_getElem?,← h,Array.getElem?_eq_none (by omega)]
      ·rw[if_neg h,if_neg (fun e=>h e.1.symm),Array.getD_eq_getD_getElem?]
     simp only[hset] at hi ⊢
     split
     ·rfl
     ·split at hi
      ·rename_i hh;rw[hh.1] at ho';exact hpre o' e ho' he hb
      ·exact hc i o' e ho' hi he hb
   unfold wpOp
   simp only[ho]
   obtain⟨m,hM⟩:=id hR
   rcases hstep with⟨hg,hop,hfr⟩ | ⟨hg,hx,hu⟩
   ·have hw:=hg.wanted (evM_R M q.i hM)
    simp only[hw,if_true]
    refine .inl ((hop.goes (fun m a w hR=>evM_R M q.i hR) (dstB_ok hd) (fun b x hb=>?_) (freshB_ok hfr)).wp hR fun a' w' hR'=>hnext a' w' ?_)
    ·unfold hpM at hb
     cases hbw:M.bw q.i b with
     | true=>rw[hbw] at hb;cases hb
     | false=>rw[hbw] at hb;exact hb
    ·unfold St.ap;rw[hdst];exact hR'
   ·have hw:=hg.wanted (evM_R M q.i hM)
    simp only[hw,Bool.false_eq_true,if_false]
    refine hnext _ _ ?_
    unfold St.ap
    rw[hdst,hx,hu]
    have:=hR.skip hd
    refine this.eqv ?_
    exact⟨fun k=>by cases o.dst <;> rfl,fun b=>by cases o.dst <;> rfl,by cases o.dst <;> rfl,fun b=>by cases o.dst <;> simp [St.app,St.put]⟩

end Go.Sh
