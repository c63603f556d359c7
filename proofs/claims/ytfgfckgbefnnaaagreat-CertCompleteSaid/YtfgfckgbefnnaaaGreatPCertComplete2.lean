/- The plain law, in parts: CertMach, CertLaws, CertComplete. -/
import Derived.Test.YtfgfckgbefnnaaaGreatPCertComplete1
set_option linter.unusedVariables false
set_option linter.unusedSimpArgs false
namespace Go.Px
open Go Go.Sh
section
variable {k:Nat} {v:Venue} {L:List Party} {P:List Pin} {r:List Int} {m:Int} {t:List Bool} {σ τ ρ:Type}
noncomputable def wlk (v:Venue) (L:List Party) (P:List Pin) (nd:List Int → σ → σ×Bool×Bool) (lf:List Int→Bool):Nat→List Int → σ → σ×Bool
 | 0,r,s=>(s,lf r)
 | d+1,r,s=>if (nd r s).2.1=true then (if (nd r s).2.2=true then rowC (fun x s=>wlk v L P nd lf d (r++[x]) s) (rowL v L P r) (nd r s).1 else ((nd r s).1,true)) else ((nd r s).1,false)
noncomputable def lok (L:List Party) (nd:List Int → σ → σ×Bool×Bool) (lf:List Int→Bool) (r:List Int) (s : σ) : σ×Bool×Bool:=if r.length=L.length then (s,lf r,false) else nd r s
def bN:Nat→Nat
 | 0=>0
 | d+1=>1+10 * bN d
theorem rowC_sz {f:Int → σ → σ×Bool} {sz : σ→Nat} {b:Nat} (hf:∀x s,sz (f x s).1≤sz s+b):∀(l:List Int) (s : σ),sz (rowC f l s).1≤sz s+l.length * b
 | [],s=>by show sz s≤_;omega
 | x::xs,s=>by
  have h1:=hf x s
  have h2:=rowC_sz hf xs (f x s).1
  rw[rowC,List.length_cons,Nat.succ_mul]
  split <;> omega
theorem wlk_sz (hn:v.Seats.length≤9) {nd:List Int → σ → σ×Bool×Bool} {lf:List Int→Bool} {sz : σ→Nat} (hs:∀r s,sz (nd r s).1≤sz s+1):∀(d:Nat) (r:List Int) (s : σ),sz (wlk v L P nd lf d r s).1≤sz s+bN d
 | 0,r,s=>Nat.le_refl _
 | d+1,r,s=>by
  have h1:=hs r s
  have h2:=rowC_sz (f:=fun x s=>wlk v L P nd lf d (r++[x]) s) (sz:=sz) (fun x s=>wlk_sz hn hs d (r++[x]) s) (rowL v L P r) (nd r s).1
  have h3:=rowL_len (v:=v) (L:=L) (P:=P) (r:=r)
  have h4:(rowL v L P r).length * bN d≤10 * bN d:=Nat.mul_le_mul_right _ (by omega)
  rw[wlk,bN]
  split
  ·split
   ·omega
   ·show sz (nd r s).1≤_;omega
  ·show sz (nd r s).1≤_;omega
structure CMach (v:Venue) (L:List Party) (P:List Pin) (nd:List Int → σ → σ×Bool×Bool) (lf:List Int→Bool) (sz : σ→Nat) (enc : σ → τ) (F:Nat→List (List (List Int))→List Int → τ→List CertRow→Bool→Option ρ):Prop where
 pop:∀(n:Nat) (r:List Int) (s : σ) (st:List CertRow),r.length≤1000→st.length≤1000→F (n+1) (lvsL v L P r) r (enc s) (st++[CertRow.mk (rowL v L P r) ((rowL v L P r).length:Int)]) true=F n (lvsL v L P (upR r)) (upR r) (enc s) st true
 push:∀(r:List Int) (s : σ) (st:List CertRow) (a:Nat),a < (rowL v L P r).length→StateP v L P r→r.length < L.length→st.length≤1000→sz s≤100000→∃r2 st2,(∀n,F (n+1) (lvsL v L P r) r (enc s) (st++[CertRow.mk (rowL v L P r) (a:Int)]) true=F n (lvsL v L P r2) r2 (enc (lok L nd lf (r++[aI (rowL v L P r) (a:Int)]) s).1) st2 (lok L nd lf (r++[aI (rowL v L P r) (a:Int)]) s).2.1) ∧
  ((lok L nd lf (r++[aI (rowL v L P r) (a:Int)]) s).2.1=true→if (lok L nd lf (r++[aI (rowL v L P r) (a:Int)]) s).2.2=true then r2=r++[aI (rowL v L P r) (a:Int)]∧st2=(st++[CertRow.mk (rowL v L P r) ((a+1:Nat):Int)])++[CertRow.mk (rowL v L P (r++[aI (rowL v L P r) (a:Int)])) 0] else r2=r∧st2=st++[CertRow.mk (rowL v L P r) ((a+1:Nat):Int)])
section
variable {nd:List Int → σ → σ×Bool×Bool} {lf:List Int→Bool} {sz : σ→Nat} {enc : σ → τ} {F:Nat→List (List (List Int))→List Int → τ→List CertRow→Bool→Option ρ}
def AfterP (v:Venue) (L:List Party) (P:List Pin) (q : σ×Bool×Bool) (r:List Int) (st:List CertRow) (r2:List Int) (st2:List CertRow):Prop:=q.2.1=true→if q.2.2=true then r2=r∧st2=st++[CertRow.mk (rowL v L P r) 0] else r2=upR r∧st2=st
def EndP (F:Nat→List (List (List Int))→List Int → τ→List CertRow→Bool→Option ρ) (enc : σ → τ) (v:Venue) (L:List Party) (P:List Pin) (b:Nat) (lv:List (List (List Int))) (r2:List Int) (s : σ) (st2:List CertRow) (g:Bool) (w : σ×Bool) (r:List Int) (st:List CertRow):Prop :=
 ∃(c:Nat) (r3:List Int) (st3:List CertRow),c≤b∧(∀n,F (n+c) lv r2 (enc s) st2 g=F n (lvsL v L P r3) r3 (enc w.1) st3 w.2)∧(w.2=true→r3=upR r∧st3=st)
theorem cmach_row (hM:CMach v L P nd lf sz enc F) (hs1:∀r s,sz (nd r s).1≤sz s+1) (hv:Small k v) (hn9:v.Seats.length≤9) {d:Nat}
  (hmain:∀(r:List Int) (s : σ) (st:List CertRow) (r2:List Int) (st2:List CertRow),r.length+d=L.length→StateP v L P r→sz s+bN d≤100000→st.length≤r.length+1→AfterP v L P (lok L nd lf r s) r st r2 st2→EndP F enc v L P (stepsB d) (lvsL v L P r2) r2 (lok L nd lf r s).1 st2 (lok L nd lf r s).2.1 (wlk v L P nd lf d r s) r st)
  (hr:r.length+(d+1)=L.length) (hst:StateP v L P r) {st:List CertRow} (hsl:st.length≤r.length+1):∀(e a:Nat) (s : σ),a+e=(rowL v L P r).length→sz s+e * bN d≤100000 →
  EndP F enc v L P (e * (1+stepsB d)+1) (lvsL v L P r) r s (st++[CertRow.mk (rowL v L P r) (a:Int)]) true (rowC (fun x s=>wlk v L P nd lf d (r++[x]) s) ((rowL v L P r).drop a) s) r st:=by
 have hlen:=hst.inn.2.2.1
 intro e
 induction e with
 | zero =>
  intro a s ha hs
  obtain rfl:a=(rowL v L P r).length:=by omega
  refine⟨1,upR r,st,by omega,fun n=>?_,fun _=>⟨rfl,rfl⟩⟩
  rw[List.drop_length]
  exact hM.pop n r s st (by omega) (by omega)
 | succ e ih =>
  intro a s ha hs
  rw[Nat.succ_mul] at hs
  have hnx:=rowL_next hv hst (by omega) (aI_mem (l:=rowL v L P r) (x:=(a:Int)) (by omega) (by omega))
  have hdrop:=drop_aI (l:=rowL v L P r) (i:=a) (by omega)
  obtain⟨r2,st2,h1,h2⟩:=hM.push r s st a (by omega) hst (by omega) (by omega) (by omega)
  generalize aI (rowL v L P r) (a:Int)=x at h1 h2 hnx hdrop
  have hst':=hnx.state hv
  have hl':(r++[x]).length=r.length+1:=by simp
  have hup:upR (r++[x])=r:=upR_snoc
  obtain⟨c1,r3,st3,b1,b2,b3⟩:=hmain (r++[x]) s (st++[CertRow.mk (rowL v L P r) ((a+1:Nat):Int)]) r2 st2 (by omega) hst' (by omega) (by rw[List.length_append,List.length_singleton];omega) (fun h=>by
   have:=h2 h
   rw[hup]
   exact this)
  rw[hdrop,rowC]
  cases hok:(wlk v L P nd lf d (r++[x]) s).2
  ·rw[if_neg (by simp)]
   rw[hok] at b2
   refine⟨c1+1,r3,st3,?_,fun n=>?_,fun h=>?_⟩
   ·rw[Nat.succ_mul];omega
   ·rw[show n+(c1+1)=(n+c1)+1 by omega,h1,b2,hok]
   ·rw[hok] at h;cases h
  ·rw[if_pos rfl]
   obtain⟨e1,e2⟩:=b3 hok
   rw[hok] at b2
   rw[hup] at e1
   have hsz:=wlk_sz (v:=v) (L:=L) (P:=P) hn9 (nd:=nd) (lf:=lf) (sz:=sz) hs1 d (r++[x]) s
   obtain⟨c2,r4,st4,d1,d2,d3⟩:=ih (a+1) (wlk v L P nd lf d (r++[x]) s).1 (by omega) (by omega)
   refine⟨c1+c2+1,r4,st4,?_,fun n=>?_,d3⟩
   ·rw[Nat.succ_mul];omega
   ·rw[show n+(c1+c2+1)=((n+c2)+c1)+1 by omega,h1,b2,e1,e2,d2]
theorem cmach_main (hM:CMach v L P nd lf sz enc F) (hs1:∀r s,sz (nd r s).1≤sz s+1) (hv:Small k v) (hn9:v.Seats.length≤9):∀(d:Nat) (r:List Int) (s : σ) (st:List CertRow) (r2:List Int) (st2:List CertRow),r.length+d=L.length→StateP v L P r→sz s+bN d≤100000→st.length≤r.length+1→AfterP v L P (lok L nd lf r s) r st r2 st2→EndP F enc v L P (stepsB d) (lvsL v L P r2) r2 (lok L nd lf r s).1 st2 (lok L nd lf r s).2.1 (wlk v L P nd lf d r s) r st
 | 0,r,s,st,r2,st2,hr,hst,hs,hsl,hA=>by
  have e:lok L nd lf r s=(s,lf r,false):=by unfold lok;rw[if_pos (by omega)]
  unfold AfterP at hA
  rw[e] at hA ⊢
  refine⟨0,r2,st2,Nat.le_refl _,fun n=>rfl,fun h=>?_⟩
  have:=hA h
  rw[if_neg (by simp)] at this
  exact this
 | d+1,r,s,st,r2,st2,hr,hst,hs,hsl,hA=>by
  have hrl:=rowL_len (v:=v) (L:=L) (P:=P) (r:=r)
  have e:lok L nd lf r s=nd r s:=by unfold lok;rw[if_neg (by omega)]
  unfold AfterP at hA
  rw[e] at hA ⊢
  rw[bN] at hs
  rw[wlk]
  cases h1:(nd r s).2.1
  ·rw[if_neg (by simp)]
   exact⟨0,r2,st2,by omega,fun n=>rfl,fun h=>by cases h⟩
  rw[if_pos rfl]
  have hA:=hA h1
  cases h2:(nd r s).2.2
  ·rw[if_neg (by simp)]
   rw[h2,if_neg (by simp)] at hA
   exact⟨0,r2,st2,by omega,fun n=>rfl,fun _=>hA⟩
  ·rw[if_pos rfl]
   rw[h2,if_pos rfl] at hA
   have hq:=hs1 r s
   have hle:(rowL v L P r).length * bN d≤10 * bN d:=Nat.mul_le_mul_right _ (by omega)
   have:=cmach_row hM hs1 hv hn9 (cmach_main hM hs1 hv hn9 d) hr hst hsl (rowL v L P r).length 0 (nd r s).1 (by omega) (by omega)
   rw[List.drop_zero] at this
   obtain⟨c,r3,st3,b1,b2,b3⟩:=this
   refine⟨c,r3,st3,?_,fun n=>?_,b3⟩
   ·have:(rowL v L P r).length * (1+stepsB d)≤10 * (1+stepsB d):=Nat.mul_le_mul_right _ (by omega)
    rw[stepsB]
    omega
   ·rw[hA.1,hA.2]
    exact b2 n
end
/- the two walks -/
noncomputable def ndC (v:Venue) (L:List Party) (P:List Pin) (m:Int) (t:List Bool) (r:List Int) (a:Nat):Nat×Bool×Bool:=if t.length≤a then (a,false,false) else if aI t (a:Int)=true then (a+1,true,true) else (a+1,dB (mostN v L P r L.length≤m),false)
noncomputable def ndN (v:Venue) (L:List Party) (P:List Pin) (m:Int) (r:List Int) (w:List Bool):List Bool×Bool×Bool:=if m < mostN v L P r L.length then (w++[true],true,true) else (w++[false],true,false)
noncomputable def lfC (v:Venue) (L:List Party) (P:List Pin) (m:Int) (r:List Int):Bool:=dB (mostN v L P r L.length≤m)
theorem wlk_chk:∀(d:Nat) (r:List Int) (a:Nat),wlk v L P (ndC v L P m t) (lfC v L P m) d r a=chk v L P m t d r a
 | 0,r,a=>rfl
 | d+1,r,a=>by
  have hf:(fun x s=>wlk v L P (ndC v L P m t) (lfC v L P m) d (r++[x]) s)=(fun x s=>chk v L P m t d (r++[x]) s):=funext fun x=>funext fun s=>wlk_chk d (r++[x]) s
  rw[wlk,chk,hf]
  unfold ndC
  by_cases h1:t.length≤a
  ·rw[if_pos h1,if_pos h1,if_neg (by simp)]
  ·rw[if_neg h1,if_neg h1]
   by_cases h2:aI t (a:Int)=true
   ·rw[if_pos h2,if_pos h2,if_pos rfl,if_pos rfl]
   ·rw[if_neg h2,if_neg h2]
    cases h3:dB (mostN v L P r L.length≤m)
    ·rw[if_neg (by simp)]
    ·rw[if_pos rfl,if_neg (by simp)]
theorem wlk_ned:∀(d:Nat) (r:List Int) (w:List Bool),wlk v L P (ndN v L P m) (lfC v L P m) d r w=ned v L P m d r w
 | 0,r,w=>rfl
 | d+1,r,w=>by
  have hf:(fun x s=>wlk v L P (ndN v L P m) (lfC v L P m) d (r++[x]) s)=(fun x s=>ned v L P m d (r++[x]) s):=funext fun x=>funext fun s=>wlk_ned d (r++[x]) s
  rw[wlk,ned,hf]
  unfold ndN
  by_cases h1:m < mostN v L P r L.length
  ·rw[if_pos h1,if_pos h1,if_pos rfl,if_pos rfl]
  ·rw[if_neg h1,if_neg h1,if_pos rfl,if_neg (by simp)]
theorem dB_dec {p:Prop} [Decidable p]:decide p=dB p:=by
 by_cases h:p
 ·rw[dB_T h,decide_eq_true h]
 ·rw[dB_F h,decide_eq_false h]
theorem goOn_F (hr:r.length≤1000) {n s:Int} {t:List Bool} {a:Int} {st:List CertRow} : cert_walk_goOn k (CertWalk.mk (mkP v L P r) n s t a st) false=some (lvsL v L P (upR r),upR r,st):=by
 obtain⟨b,eP⟩:=pop_up (k:=k) (v:=v) (L:=L) (P:=P) hr
 unfold cert_walk_goOn
 rw[cNF,bindS eP]
theorem goOn_T (hst:StateP v L P r) (hr:r.length < L.length) {n s:Int} {t:List Bool} {a:Int} {st:List CertRow} (hsl:st.length≤2000):cert_walk_goOn k (CertWalk.mk (mkP v L P r) n s t a st) true=some (lvsL v L P r,r,st++[CertRow.mk (rowL v L P r) 0]):=by
 unfold cert_walk_goOn
 rw[cNT,bindS (search_Row_eq hst hr),gdD (by simp only[List.length_singleton];omega)]
 rfl
theorem look2_eq (hv:Small k v) (hk:1000 < k) (hst:StateP v L P r) {a:Nat} (ha:a≤100000) {st:List CertRow} (hsl:st.length≤2000) (htl:t.length≤100000) (hat:a≤t.length):∃r2 st2,cert_walk_look k (CertWalk.mk (mkP v L P r) (L.length:Int) m t (a:Int) st)=some (if r.length=L.length then true else (ndC v L P m t r a).2.1,lvsL v L P r2,r2,(((if r.length=L.length then a else (ndC v L P m t r a).1:Nat)):Int),st2) ∧
  (if r.length=L.length then r2=upR r∧st2=st else (ndC v L P m t r a).2.1=true→if (ndC v L P m t r a).2.2=true then r2=r∧st2=st++[CertRow.mk (rowL v L P r) 0] else r2=upR r∧st2=st):=by
 have h1:=hst.inn.2.2.1
 have h2:=hst.len
 unfold cert_walk_look
 dsimp only
 rw[bindS prop_Depth_eq]
 by_cases hr:r.length=L.length
 ·rw[condD (by omega),bindS (goOn_F (by omega)),if_pos hr,if_pos hr]
  exact⟨upR r,st,rfl,by rw[if_pos hr];exact⟨rfl,rfl⟩⟩
 ·rw[condN (by omega),if_neg hr,if_neg hr]
  unfold ndC
  by_cases h3:t.length≤a
  ·rw[condD (by omega),if_pos h3]
   exact⟨r,st,rfl,by rw[if_neg hr];exact fun h=>by cases h⟩
  ·rw[condN (by omega),if_neg h3,bindS (idx_aI (by omega) (by omega)),wr_succ (by omega)]
   cases h4:aI t (a:Int)
   ·rw[cond_false,bindS (prop_Most_eq hv hk hst),dB_dec,bindS rfl,bindS (goOn_F (by omega)),if_neg (by simp)]
    exact⟨upR r,st,rfl,by rw[if_neg hr];exact fun _=>⟨rfl,rfl⟩⟩
   ·rw[cond_true,bindS rfl,bindS (goOn_T hst (by omega) hsl),if_pos rfl]
    exact⟨r,st++[CertRow.mk (rowL v L P r) 0],rfl,by rw[if_neg hr];exact fun _=>⟨rfl,rfl⟩⟩
def szC (t:List Bool) (a:Nat):Nat:=if a≤t.length then a else 200000
theorem szC_nd:∀(r:List Int) (a:Nat),szC t (ndC v L P m t r a).1≤szC t a+1:=fun r a=>by
 unfold ndC szC
 by_cases h:t.length≤a
 ·rw[if_pos h]
  show(if a≤t.length then a else 200000)≤_
  omega
 ·rw[if_neg h]
  have e:(if aI t (a:Int)=true then (a+1,true,true) else (a+1,dB (mostN v L P r L.length≤m),false)).1=a+1:=by split <;> rfl
  rw[e,if_pos (by omega),if_pos (by omega)]
  exact Nat.le_refl _
theorem top_st {st:List CertRow} {x:CertRow} : idx (st++[x]) (st.length:Int)=some x:=by
 refine idx_get (by omega) ?_
 rw[Int.toNat_natCast,List.getElem?_append_right (Nat.le_refl _),Nat.sub_self]
 rfl
theorem len_st {st:List CertRow} {x:CertRow} (h:st.length≤1000):wr (((st++[x]).length:Int)-1)=(st.length:Int):=by
 rw[List.length_append,List.length_singleton,wr_id (by omega) (by omega)]
 omega
theorem set_st {st:List CertRow} {x y:CertRow} : (st++[x]).set st.length y=st++[y]:=by
 rw[List.set_append_right _ _ (Nat.le_refl _),Nat.sub_self]
 rfl
theorem more_eq (hv:Small k v) (hk:1000 < k) (hst:StateP v L P r):(Option.bind (prop_Prop_Depth k (mkP v L P r)) fun r114=>cond (decide (r114=(L.length:Int))) (Option.bind (prop_Prop_Most k (mkP v L P r)) fun r117=>some (decide (m < r117))) (some false))=some (if r.length=L.length then !lfC v L P m r else false):=by
 rw[bindS prop_Depth_eq]
 by_cases h:r.length=L.length
 ·rw[condD (by omega),bindS (prop_Most_eq hv hk hst),if_pos h]
  unfold lfC
  by_cases h2:m < mostN v L P r L.length
  ·rw[decide_eq_true h2,dB_F (by omega)];rfl
  ·rw[decide_eq_false h2,dB_T (by omega)];rfl
 ·rw[condN (by omega),if_neg h]
theorem look_mach (hv:Small k v) (hk:1000 < k) (htl:t.length≤100000) {a0:CertWalk} (h1:a0.p.s=setOf v L P) (h2:a0.n=(L.length:Int)) (h3:a0.seats=m) (h4:a0.t=t):CMach v L P (ndC v L P m t) (lfC v L P m) (szC t) (fun a:Nat=>(a:Int)) (cert_walk_all_look_l0 k a0):=by
 refine⟨fun n r s st hr hsl=>?_,fun r s st a ha hst hr hsl hs=>?_⟩
 ·obtain⟨b,eP⟩:=pop_up (k:=k) (v:=v) (L:=L) (P:=P) hr
  have eP':prop_Prop_Pop k (PropProp.mk (setOf v L P) (lvsL v L P r) r)=_:=eP
  rw[cert_walk_all_look_l0,h1,cond_true,bindS rfl,decide_eq_true (by rw[List.length_append,List.length_singleton];omega),cond_true,len_st hsl,bindS top_st]
  dsimp only
  rw[condD rfl,gdD (by rw[List.length_append,List.length_singleton];omega),bindS eP',Int.toNat_natCast,List.take_left' rfl]
 ·have hlen:=hst.inn.2.2.1
  have hx:idx (rowL v L P r) (a:Int)=some (aI (rowL v L P r) (a:Int)):=idx_aI (by omega) (by omega)
  have hnx:=rowL_next hv hst hr (aI_mem (l:=rowL v L P r) (x:=(a:Int)) (by omega) (by omega))
  have hrl:=rowL_len (v:=v) (L:=L) (P:=P) (r:=r)
  have hvs:=hv.hs
  have hvb:=hv.b
  generalize aI (rowL v L P r) (a:Int)=x at hx hnx
  have hst':=hnx.state hv
  have eP:=prop_Push_eq (k:=k) hv hk hst x
  rw[dB_T hnx,if_pos rfl] at eP
  have eP':prop_Prop_Push k (PropProp.mk (setOf v L P) (lvsL v L P r) r) x=_:=eP
  have hat:s≤t.length∧s≤100000:=by unfold szC at hs;split at hs <;> omega
  obtain⟨r2,st2,eL,hL⟩:=look2_eq (k:=k) (r:=r++[x]) (m:=m) (t:=t) hv hk hst' hat.2 (st:=st++[CertRow.mk (rowL v L P r) ((a+1:Nat):Int)]) (by rw[List.length_append,List.length_singleton];omega) htl hat.1
  have eM:=more_eq (m:=m) hv hk hst'
  have hup:upR (r++[x])=r:=upR_snoc
  rw[hup] at hL
  refine⟨r2,st2,fun n=>?_,fun hg=>?_⟩
  ·have hwa:wr (wr ((a:Int)+1)-1)=(a:Int):=by rw[wr_id (x:=(a:Int)+1) (by omega) (by omega),wr_id (by omega) (by omega)];omega
   rw[cert_walk_all_look_l0,h1,h2,h3,h4,cond_true,bindS rfl,decide_eq_true (by rw[List.length_append,List.length_singleton];omega),cond_true,len_st hsl,bindS top_st]
   dsimp only
   rw[condN (by omega),hwa,bindS hx,bindS eP',wr_succ (by omega),Int.toNat_natCast,set_st]
   dsimp only
   have eM':(Option.bind (prop_Prop_Depth k (PropProp.mk (setOf v L P) (lvsL v L P (r++[x])) (r++[x]))) fun r114=>cond (decide (r114=(L.length:Int))) (Option.bind (prop_Prop_Most k (PropProp.mk (setOf v L P) (lvsL v L P (r++[x])) (r++[x]))) fun r117=>some (decide (m < r117))) (some false))=_:=eM
   have eL':cert_walk_look k (CertWalk.mk (PropProp.mk (setOf v L P) (lvsL v L P (r++[x])) (r++[x])) (L.length:Int) m t (s:Int) (st++[CertRow.mk (rowL v L P r) ((a+1:Nat):Int)]))=_:=eL
   rw[bindS eM',bindS eL']
   dsimp only
   unfold lok
   by_cases hl:(r++[x]).length=L.length
   ·rw[if_pos hl,if_pos hl,if_pos hl,if_pos hl,cond_true,Bool.not_not]
   ·rw[if_neg hl,if_neg hl,if_neg hl,if_neg hl]
    cases (ndC v L P m t (r++[x]) s).2.1
    ·rw[cond_false]
    ·rw[cond_true];rfl
  ·unfold lok at hg ⊢
   by_cases hl:(r++[x]).length=L.length
   ·rw[if_pos hl] at hg hL ⊢
    rw[if_neg (by simp)]
    exact hL
   ·rw[if_neg hl] at hg hL ⊢
    exact hL hg
theorem need_eq (hv:Small k v) (hk:1000 < k) (hst:StateP v L P r) {w:List Bool} (hw:w.length≤100000) {st:List CertRow} (hsl:st.length≤2000) {ta:Int} : ∃r2 st2,cert_walk_need_f1000 k (CertWalk.mk (mkP v L P r) (L.length:Int) m w ta st)=some (true,lvsL v L P r2,r2,(if r.length=L.length then w else (ndN v L P m r w).1),st2) ∧
  (if r.length=L.length then r2=upR r∧st2=st else if (ndN v L P m r w).2.2=true then r2=r∧st2=st++[CertRow.mk (rowL v L P r) 0] else r2=upR r∧st2=st):=by
 have h1:=hst.inn.2.2.1
 have h2:=hst.len
 have gF:∀ {n s:Int} {t:List Bool} {a:Int} {st:List CertRow},cert_walk_goOn_f1000 k (CertWalk.mk (mkP v L P r) n s t a st) false=some (lvsL v L P (upR r),upR r,st):=goOn_F (by omega)
 unfold cert_walk_need_f1000
 dsimp only
 rw[bindS prop_Depth_eq]
 by_cases hr:r.length=L.length
 ·rw[condD (by omega),bindS gF,if_pos hr]
  exact⟨upR r,st,rfl,by rw[if_pos hr];exact⟨rfl,rfl⟩⟩
 ·rw[condN (by omega),if_neg hr,bindS (prop_Most_eq hv hk hst),gdD (by simp only[List.length_singleton];omega)]
  unfold ndN
  by_cases h3:m < mostN v L P r L.length
  ·have gT:cert_walk_goOn_f1000 k (CertWalk.mk (mkP v L P r) (L.length:Int) m (w++[true]) ta st) true=some (lvsL v L P r,r,st++[CertRow.mk (rowL v L P r) 0]):=goOn_T hst (by omega) hsl
   rw[decide_eq_true h3,bindS gT,if_pos h3]
   exact⟨r,st++[CertRow.mk (rowL v L P r) 0],rfl,by rw[if_neg hr,if_pos rfl];exact⟨rfl,rfl⟩⟩
  ·rw[decide_eq_false h3,bindS gF,if_neg h3]
   exact⟨upR r,st,rfl,by rw[if_neg hr,if_neg (by simp)];exact⟨rfl,rfl⟩⟩
theorem need_mach (hv:Small k v) (hk:1000 < k) {a0:CertWalk} (h1:a0.p.s=setOf v L P) (h2:a0.n=(L.length:Int)) (h3:a0.seats=m):CMach v L P (ndN v L P m) (lfC v L P m) List.length (fun w:List Bool=>w) (cert_walk_all_f1000_need_l0 k a0):=by
 refine⟨fun n r s st hr hsl=>?_,fun r s st a ha hst hr hsl hs=>?_⟩
 ·obtain⟨b,eP⟩:=pop_up (k:=k) (v:=v) (L:=L) (P:=P) hr
  have eP':prop_Prop_Pop k (PropProp.mk (setOf v L P) (lvsL v L P r) r)=_:=eP
  rw[cert_walk_all_f1000_need_l0,h1,cond_true,bindS rfl,decide_eq_true (by rw[List.length_append,List.length_singleton];omega),cond_true,len_st hsl,bindS top_st]
  dsimp only
  rw[condD rfl,gdD (by rw[List.length_append,List.length_singleton];omega),bindS eP',Int.toNat_natCast,List.take_left' rfl]
 ·have hlen:=hst.inn.2.2.1
  have hx:idx (rowL v L P r) (a:Int)=some (aI (rowL v L P r) (a:Int)):=idx_aI (by omega) (by omega)
  have hnx:=rowL_next hv hst hr (aI_mem (l:=rowL v L P r) (x:=(a:Int)) (by omega) (by omega))
  have hrl:=rowL_len (v:=v) (L:=L) (P:=P) (r:=r)
  have hvs:=hv.hs
  have hvb:=hv.b
  generalize aI (rowL v L P r) (a:Int)=x at hx hnx
  have hst':=hnx.state hv
  have eP:=prop_Push_eq (k:=k) hv hk hst x
  rw[dB_T hnx,if_pos rfl] at eP
  have eP':prop_Prop_Push k (PropProp.mk (setOf v L P) (lvsL v L P r) r) x=_:=eP
  obtain⟨r2,st2,eL,hL⟩:=need_eq (k:=k) (r:=r++[x]) (m:=m) hv hk hst' hs (st:=st++[CertRow.mk (rowL v L P r) ((a+1:Nat):Int)]) (by rw[List.length_append,List.length_singleton];omega) (ta:=a0.taken)
  have eM:=more_eq (m:=m) hv hk hst'
  have hup:upR (r++[x])=r:=upR_snoc
  rw[hup] at hL
  have hnd:(ndN v L P m (r++[x]) s).2.1=true:=by unfold ndN;split <;> rfl
  refine⟨r2,st2,fun n=>?_,fun hg=>?_⟩
  ·have hwa:wr (wr ((a:Int)+1)-1)=(a:Int):=by rw[wr_id (x:=(a:Int)+1) (by omega) (by omega),wr_id (by omega) (by omega)];omega
   rw[cert_walk_all_f1000_need_l0,h1,h2,h3,cond_true,bindS rfl,decide_eq_true (by rw[List.length_append,List.length_singleton];omega),cond_true,len_st hsl,bindS top_st]
   dsimp only
   rw[condN (by omega),hwa,bindS hx,bindS eP',wr_succ (by omega),Int.toNat_natCast,set_st]
   dsimp only
   have eM':(Option.bind (prop_Prop_Depth k (PropProp.mk (setOf v L P) (lvsL v L P (r++[x])) (r++[x]))) fun r114=>cond (decide (r114=(L.length:Int))) (Option.bind (prop_Prop_Most k (PropProp.mk (setOf v L P) (lvsL v L P (r++[x])) (r++[x]))) fun r117=>some (decide (m < r117))) (some false))=_:=eM
   have eL':cert_walk_need_f1000 k (CertWalk.mk (PropProp.mk (setOf v L P) (lvsL v L P (r++[x])) (r++[x])) (L.length:Int) m s a0.taken (st++[CertRow.mk (rowL v L P r) ((a+1:Nat):Int)]))=_:=eL
   rw[bindS eM',bindS eL']
   dsimp only
   rw[cond_true]
   unfold lok
   by_cases hl:(r++[x]).length=L.length
   ·rw[if_pos hl,if_pos hl,if_pos hl,Bool.not_not]
   ·rw[if_neg hl,if_neg hl,if_neg hl,hnd]
    rfl
  ·unfold lok at hg ⊢
   by_cases hl:(r++[x]).length=L.length
   ·rw[if_pos hl] at hg hL ⊢
    rw[if_neg (by simp)]
    exact hL
   ·rw[if_neg hl] at hg hL ⊢
    exact hL
end
end Go.Px

set_option linter.unusedVariables false
set_option linter.unusedSimpArgs false
namespace Go.Px
open Go Go.Sh
section
variable {k:Nat} {v:Venue} {L:List Party} {P:List Pin} {r:List Int} {fuel m:Int} {t:List Bool}
theorem bN_4 {d:Nat} (h:d≤4):bN d≤1111:=by
 have:d=0∨d=1∨d=2∨d=3∨d=4:=by omega
 rcases this with rfl | rfl | rfl | rfl | rfl <;> decide
noncomputable def chkR (v:Venue) (L:List Party) (P:List Pin) (r:List Int) (t:List Bool):Nat×Bool:=chk v L P (seatN L r L.length) t L.length [] 0
noncomputable def chkB (v:Venue) (L:List Party) (P:List Pin) (r:List Int) (t:List Bool):Bool:=dB (chkR v L P r t=(t.length,true))
noncomputable def nedR (v:Venue) (L:List Party) (P:List Pin) (r:List Int):List Bool×Bool:=ned v L P (seatN L r L.length) L.length [] []
noncomputable def nedL (v:Venue) (L:List Party) (P:List Pin) (r:List Int):List Bool:=if dB (PlanP v L P r)=true then (if (nedR v L P r).2=true then (nedR v L P r).1 else []) else []
theorem root_lf (hm:0≤m) (h:([]:List Int).length=L.length):lfC v L P m []=true:=by
 unfold lfC
 rw[← h]
 exact dB_T hm
theorem all_look_eq (hc:BCtx v L P) (hm:0≤m) (htl:t.length≤100000):∃lv p st,cert_walk_all_look 20000 (CertWalk.mk (mkP v L P []) (L.length:Int) m t 0 [])=some ((chk v L P m t L.length [] 0).2,lv,p,((chk v L P m t L.length [] 0).1:Int),st):=by
 have hv:=hc.small
 have h4:=hc.pr.l4
 have hst:=StateP_nil (hc.pr.inn hc.ok)
 have hM:=look_mach (k:=20000) (L:=L) (P:=P) (m:=m) (t:=t) hv (by omega) htl (a0:=CertWalk.mk (mkP v L P []) (L.length:Int) m t 0 []) rfl rfl rfl rfl
 have hB:=bN_4 h4
 have hS:=stepsB_4 h4
 obtain⟨r2,st2,eL,hL⟩:=look2_eq (k:=20000) (r:=[]) (m:=m) (t:=t) (a:=0) hv (by omega) hst (by omega) (st:=[]) (by simp) htl (by omega)
 have e0:szC t 0=0:=if_pos (by omega)
 obtain⟨c,r3,st3,b1,b2,b3⟩:=cmach_main hM szC_nd hv hc.pr.n1 L.length [] 0 [] r2 st2 (by simp) hst (by rw[e0];omega) (by simp) (by
  unfold AfterP lok
  by_cases hl:([]:List Int).length=L.length
  ·rw[if_pos hl] at hL ⊢
   intro _
   rw[if_neg (by simp)]
   exact hL
  ·rw[if_neg hl] at hL ⊢
   exact hL)
 rw[wlk_chk] at b2 b3
 have eL:cert_walk_look 20000 (CertWalk.mk (mkP v L P []) (L.length:Int) m t 0 [])=_:=eL
 have e:=b2 (20000-c)
 rw[show 20000-c+c=20000 by omega] at e
 obtain⟨n,hn⟩:∃n,20000-c=n+1:=⟨20000-c-1,by omega⟩
 rw[hn] at e
 have hend:cert_walk_all_look_l0 20000 (CertWalk.mk (mkP v L P []) (L.length:Int) m t 0 []) (n+1) (lvsL v L P r3) r3 ((chk v L P m t L.length [] 0).1:Int) st3 (chk v L P m t L.length [] 0).2=some (lvsL v L P r3,r3,((chk v L P m t L.length [] 0).1:Int),st3,(chk v L P m t L.length [] 0).2):=by
  rw[cert_walk_all_look_l0]
  cases hq:(chk v L P m t L.length [] 0).2
  ·rw[cond_false,bindS rfl,cond_false]
  ·rw[(b3 hq).2,cond_true,bindS rfl,decide_eq_false (by simp),cond_false]
 have e2:cert_walk_all_look_l0 20000 (CertWalk.mk (mkP v L P []) (L.length:Int) m t 0 []) 20000 (lvsL v L P r2) r2 ((lok L (ndC v L P m t) (lfC v L P m) [] 0).1:Int) st2 (lok L (ndC v L P m t) (lfC v L P m) [] 0).2.1=_:=e.trans hend
 unfold cert_walk_all_look
 rw[bindS eL]
 dsimp only
 have e3:(if ([]:List Int).length=L.length then true else (ndC v L P m t [] 0).2.1)=(lok L (ndC v L P m t) (lfC v L P m) [] 0).2.1∧(if ([]:List Int).length=L.length then 0 else (ndC v L P m t [] 0).1)=(lok L (ndC v L P m t) (lfC v L P m) [] 0).1:=by
  unfold lok
  by_cases hl:([]:List Int).length=L.length
  ·rw[if_pos hl,if_pos hl,if_pos hl]
   exact⟨(root_lf hm hl).symm,rfl⟩
  ·rw[if_neg hl,if_neg hl,if_neg hl]
   exact⟨rfl,rfl⟩
 rw[e3.1,e3.2,bindS e2]
 exact⟨_,_,_,rfl⟩
theorem all_need_eq (hc:BCtx v L P) (hm:0≤m):∃lv p st,cert_walk_all_f1000_need 20000 (CertWalk.mk (mkP v L P []) (L.length:Int) m [] 0 [])=some ((ned v L P m L.length [] []).2,lv,p,(ned v L P m L.length [] []).1,st):=by
 have hv:=hc.small
 have h4:=hc.pr.l4
 have hst:=StateP_nil (hc.pr.inn hc.ok)
 have hM:=need_mach (k:=20000) (L:=L) (P:=P) (m:=m) hv (by omega) (a0:=CertWalk.mk (mkP v L P []) (L.length:Int) m [] 0 []) rfl rfl rfl
 have hB:=bN_4 h4
 have hS:=stepsB_4 h4
 obtain⟨r2,st2,eL,hL⟩:=need_eq (k:=20000) (r:=[]) (m:=m) (w:=[]) hv (by omega) hst (by simp) (st:=[]) (by simp) (ta:=0)
 have hnd:(ndN v L P m [] []).2.1=true:=by unfold ndN;split <;> rfl
 obtain⟨c,r3,st3,b1,b2,b3⟩:=cmach_main hM (fun r s=>by unfold ndN;split <;> simp) hv hc.pr.n1 L.length [] [] [] r2 st2 (by simp) hst (by show 0+bN L.length≤100000;omega) (by simp) (by
  unfold AfterP lok
  by_cases hl:([]:List Int).length=L.length
  ·rw[if_pos hl] at hL ⊢
   intro _
   rw[if_neg (by simp)]
   exact hL
  ·rw[if_neg hl] at hL ⊢
   intro _
   exact hL)
 rw[wlk_ned] at b2 b3
 have e:=b2 (20000-c)
 rw[show 20000-c+c=20000 by omega] at e
 obtain⟨n,hn⟩:∃n,20000-c=n+1:=⟨20000-c-1,by omega⟩
 rw[hn] at e
 have hend:cert_walk_all_f1000_need_l0 20000 (CertWalk.mk (mkP v L P []) (L.length:Int) m [] 0 []) (n+1) (lvsL v L P r3) r3 (ned v L P m L.length [] []).1 st3 (ned v L P m L.length [] []).2=some (lvsL v L P r3,r3,(ned v L P m L.length [] []).1,st3,(ned v L P m L.length [] []).2):=by
  rw[cert_walk_all_f1000_need_l0]
  cases hq:(ned v L P m L.length [] []).2
  ·rw[cond_false,bindS rfl,cond_false]
  ·rw[(b3 hq).2,cond_true,bindS rfl,decide_eq_false (by simp),cond_false]
 have e2:cert_walk_all_f1000_need_l0 20000 (CertWalk.mk (mkP v L P []) (L.length:Int) m [] 0 []) 20000 (lvsL v L P r2) r2 (lok L (ndN v L P m) (lfC v L P m) [] []).1 st2 (lok L (ndN v L P m) (lfC v L P m) [] []).2.1=_:=e.trans hend
 unfold cert_walk_all_f1000_need
 rw[bindS eL]
 dsimp only
 have e3:true=(lok L (ndN v L P m) (lfC v L P m) [] []).2.1∧(if ([]:List Int).length=L.length then [] else (ndN v L P m [] []).1)=(lok L (ndN v L P m) (lfC v L P m) [] []).1:=by
  unfold lok
  by_cases hl:([]:List Int).length=L.length
  ·rw[if_pos hl,if_pos hl]
   exact⟨(root_lf hm hl).symm,rfl⟩
  ·rw[if_neg hl,if_neg hl]
   exact⟨hnd.symm,rfl⟩
 rw[e3.2,e3.1,bindS e2]
 exact⟨_,_,_,rfl⟩
theorem seatN_0 (hc:BCtx v L P):0≤seatN L r L.length:=(seatN_bd hc.pr.all (r:=r) (Nat.le_refl _)).1
theorem check_eq (hc:BCtx v L P) (hr:∀i:Nat,i < r.length→okI (aI r (i:Int))) (htl:t.length≤100000):cert_Check 20000 v L P r t=some (if dB (PlanP v L P r)=true then (if chkB v L P r t=true then ((t.length:Int),0) else (0,10)) else (0,1)):=by
 have hv:=hc.small
 have h4:=hc.pr.l4
 have hP4:=hc.l4
 have hI:=hc.pr.inn hc.ok
 have eM:=plan_May_eq (L:=L) hv (by omega) (by omega) (by omega) (pins_ok hv hc.ok) hr
 unfold cert_Check cert_in
 rcases Classical.em (PlanP v L P r) with h | h
 ·have eN:=prop_New_eq (k:=20000) (L:=L) (P:=P) hv (by omega) (by omega) (by omega) (pins_ok hv hc.ok)
  rw[dB_T hI,if_pos rfl] at eN
  rw[dB_T h] at eM ⊢
  obtain⟨lv,p,st,eA⟩:=all_look_eq (t:=t) hc (seatN_0 hc (r:=r)) htl
  have hle:=chk_le (v:=v) (L:=L) (P:=P) (m:=seatN L r L.length) (t:=t) L.length [] 0 (by omega)
  rw[bindS eM,cNT,bindS eN]
  dsimp only
  rw[optc_some,bindS (plan_Seated_eq hc.pr.all (by omega) (by omega) h.len),bindS rfl]
  dsimp only
  rw[optc_some,cNT,List.take_nil,bindS eA,if_pos rfl]
  dsimp only
  unfold chkB chkR
  cases hq:(chk v L P (seatN L r L.length) t L.length [] 0).2
  ·rw[cNF,dB_F (fun h=>by rw[h] at hq;cases hq),if_neg (by simp)]
  ·rw[cNT]
   by_cases hl:(chk v L P (seatN L r L.length) t L.length [] 0).1=t.length
   ·rw[condN (by omega),dB_T (Prod.ext hl hq),if_pos rfl,hl]
   ·rw[condD (by omega),dB_F (fun h=>hl (by rw[h])),if_neg (by simp)]
 ·rw[dB_F h] at eM ⊢
  rw[bindS eM,cNF,bindS rfl,optc_none,cNF,if_neg (by simp)]
theorem holds_eq (hc:BCtx v L P) (hr:∀i:Nat,i < r.length→okI (aI r (i:Int))) (htl:t.length≤100000):cert_Holds 20000 v L P r t=some (dB (PlanP v L P r) && chkB v L P r t):=by
 unfold cert_Holds
 rw[bindS (check_eq hc hr htl)]
 cases dB (PlanP v L P r)
 ·rfl
 ·cases chkB v L P r t <;> rfl
theorem need_eq2 (hc:BCtx v L P) (hr:∀i:Nat,i < r.length→okI (aI r (i:Int))):cert_Need 20000 v L P r=some (nedL v L P r):=by
 have hv:=hc.small
 have h4:=hc.pr.l4
 have hP4:=hc.l4
 have hI:=hc.pr.inn hc.ok
 have eM:=plan_May_eq (L:=L) hv (by omega) (by omega) (by omega) (pins_ok hv hc.ok) hr
 unfold cert_Need cert_in_n4 nedL nedR
 rcases Classical.em (PlanP v L P r) with h | h
 ·have eN:=prop_New_eq (k:=20000) (L:=L) (P:=P) hv (by omega) (by omega) (by omega) (pins_ok hv hc.ok)
  rw[dB_T hI,if_pos rfl] at eN
  rw[dB_T h] at eM ⊢
  obtain⟨lv,p,st,eA⟩:=all_need_eq hc (seatN_0 hc (r:=r))
  rw[bindS eM,cNT,bindS eN]
  dsimp only
  rw[optc_some,bindS (plan_Seated_eq hc.pr.all (by omega) (by omega) h.len),bindS rfl]
  dsimp only
  rw[optc_some,cNT,List.take_nil,List.take_nil,bindS eA,if_pos rfl]
  dsimp only
  cases (ned v L P (seatN L r L.length) L.length [] []).2
  ·rw[cNF,if_neg (by simp)]
  ·rw[cNT,if_pos rfl]
 ·rw[dB_F h] at eM ⊢
  rw[bindS eM,cNF,bindS rfl,optc_none,cNF,if_neg (by simp)]
/- what they mean -/
theorem chkB_iff:chkB v L P r t=true ↔ chkR v L P r t=(t.length,true):=dB_iff
theorem chkB_sound (hc:BCtx v L P) (h:chkB v L P r t=true) {q:List Int} (hq:PlanP v L P q):seatN L q L.length≤seatN L r L.length:=by
 have h:=chkB_iff.1 h
 exact chk_sound hc.small L.length [] 0 (by simp) (by have:=congrArg Prod.snd h;exact this) q hq rfl
theorem ned_holds (h:(nedR v L P r).2=true):chkB v L P r (nedR v L P r).1=true:=by
 have e:=chk_ned (v:=v) (L:=L) (P:=P) (m:=seatN L r L.length) L.length [] [] [] h
 rw[List.append_nil] at e
 exact chkB_iff.2 e
theorem ned_iff (hc:BCtx v L P):(nedR v L P r).2=true ↔ ∀q,PlanP v L P q→seatN L q L.length≤seatN L r L.length:=by
 constructor
 ·exact fun h q hq=>chkB_sound hc (ned_holds h) hq
 ·intro h
  cases hq:(nedR v L P r).2
  ·obtain⟨q,h1,h2⟩:=ned_fail hc.small L.length [] [] (by simp) (StateP_nil (hc.pr.inn hc.ok)) hq
   have:=h q h1
   omega
  ·rfl
theorem ned_short (h:chkB v L P r t=true):(nedR v L P r).2=true∧(nedR v L P r).1.length≤t.length:=by
 have h:=chkB_iff.1 h
 have e:=ned_least (v:=v) (L:=L) (P:=P) (m:=seatN L r L.length) (t:=t) L.length [] 0 [] (by have:=congrArg Prod.snd h;exact this)
 refine⟨e.1,?_⟩
 have h2:(chk v L P (seatN L r L.length) t L.length [] 0).1=t.length:=congrArg Prod.fst h
 have h3:(nedR v L P r).1.length+0≤(chk v L P (seatN L r L.length) t L.length [] 0).1+([]:List Bool).length:=e.2
 rw[h2] at h3
 exact h3
theorem ned_len (hc:BCtx v L P):(nedR v L P r).1.length≤1111:=by
 have h:=wlk_sz (v:=v) (L:=L) (P:=P) hc.pr.n1 (nd:=ndN v L P (seatN L r L.length)) (lf:=lfC v L P (seatN L r L.length)) (sz:=List.length) (fun r s=>by unfold ndN;split <;> simp) L.length [] []
 rw[wlk_ned] at h
 have hB:=bN_4 hc.pr.l4
 have h:(nedR v L P r).1.length≤0+bN L.length:=h
 omega
theorem nedL_len (hc:BCtx v L P):(nedL v L P r).length≤1111:=by
 have:=ned_len hc (r:=r)
 unfold nedL
 split
 ·split
  ·exact this
  ·simp
 ·simp
theorem tree_holds (hc:BCtx v L P) (ho:(huntR v L P fuel).2=true):chkB v L P (huntR v L P fuel).1.plan (huntR v L P fuel).1.tree=true:=by
 have hp:=huntR_plan (fuel:=fuel) hc
 have e:=hunt_chk (v:=v) (L:=L) (P:=P) (fuel:=fuel) (m:=seatN L (huntR v L P fuel).1.plan L.length) L.length [] (s0 L P) [] ho (by rw[hp.2];exact Int.le_refl _)
 rw[List.append_nil] at e
 exact chkB_iff.2 e
theorem tree_len (hc:BCtx v L P) {N:Int} (h:SCtx v L P N):(huntR v L P 1073741824).1.tree.length≤11111:=by
 have h1:=(hunt_inv (v:=v) (L:=L) (P:=P) (fuel:=1073741824) L.length [] (s0 L P) s0_inv).t
 have h1:((huntR v L P 1073741824).1.tree.length:Int)≤(huntR v L P 1073741824).1.nodes:=h1
 have h2:=h.n
 have h3:=h.n2
 omega
end
end Go.Px

set_option linter.unusedVariables false
set_option linter.unusedSimpArgs false
namespace Go.Px
open Go Go.Sh
theorem law17_told_eq3:law17_told 20000=some true:=by decide +kernel
section
variable {v:Venue} {L:List Party} {P:List Pin} {r q:List Int} {t:List Bool}
theorem best_le {s:HS} (h:Done L s q):seatN L q L.length≤s.most:=by
 rcases h with h | h
 ·omega
 ·omega
theorem ok_mx (hc:BCtx v L P):(huntR v L P 1073741824).2=true:=by
 obtain⟨N,hN⟩:=SCtx_of hc
 exact hN.ok
theorem tree_mx (hc:BCtx v L P):(huntR v L P 1073741824).1.tree.length≤11111:=by
 obtain⟨N,hN⟩:=SCtx_of hc
 exact tree_len hc hN
theorem nedL_short (hq:PlanP v L P q) (h:chkB v L P q t=true):(nedL v L P q).length≤t.length:=by
 have:=ned_short h
 unfold nedL
 rw[dB_T hq,if_pos rfl,if_pos this.1]
 exact this.2
theorem need_holds (hc:BCtx v L P) (hq:PlanP v L P q):chkB v L P q (nedL v L P q)=decide (seatN L q L.length=(huntR v L P 1073741824).1.most):=by
 have hpl:=huntR_plan (fuel:=1073741824) hc
 have hle:=best_le (huntR_best hc (ok_mx hc) hq)
 cases hn:(nedR v L P q).2
 ·have e:nedL v L P q=[]:=by
   unfold nedL
   rw[dB_T hq,if_pos rfl,hn,if_neg (by simp)]
  have hne:¬seatN L q L.length=(huntR v L P 1073741824).1.most:=fun he=>by
   have:=(ned_iff hc (r:=q)).2 (fun q' hq'=>by rw[he];exact best_le (huntR_best hc (ok_mx hc) hq'))
   rw[hn] at this
   cases this
  rw[e,decide_eq_false hne]
  cases hk:chkB v L P q []
  ·rfl
  ·have:=(ned_short hk).1
   rw[hn] at this
   cases this
 ·have e:nedL v L P q=(nedR v L P q).1:=by
   unfold nedL
   rw[dB_T hq,if_pos rfl,hn,if_pos rfl]
  have h1:=(ned_iff hc (r:=q)).1 hn _ hpl.1
  rw[hpl.2] at h1
  rw[e,ned_holds hn,decide_eq_true (by omega)]
theorem CertComplete_true (a0:List Int) (h0:okLI a0) (a1:List Int) (h1:okLI a1) (a2:Int) (h2:okI a2) (a3:Int) (h3:okI a3):∃k,law17_CertComplete k a0 a1 a2 a3=some true:=by
 refine⟨20000,?_⟩
 obtain⟨v,L,e,hp⟩:=law12_Small_eq (k:=20000) a0 a1 (by omega)
 have hv:=hp.small (k:=20000) (by omega) (by omega)
 obtain⟨P,e3,hPl,hP⟩:=law12_Pins_eq hp (k:=20000) (by omega) (by omega) a2
 obtain⟨R,e5,hR,hRl⟩:=ref15_Plans_eq hp (k:=20000) (by omega) (by omega) (P:=P) hPl
 have hc:BCtx v L P:=⟨hp,hPl,hP⟩
 have h4:=hp.l4
 have hR0:0 < R.length:=by
  obtain⟨m,hm,_⟩:=mem_aI ((hR _).2 (pinPlan_P hv (hp.inn hP)))
  omega
 unfold law17_CertComplete
 rw[bindS e]
 dsimp only
 obtain⟨u0,u1⟩:=um a3 (R.length:Int) (by omega)
 have hw:IntKind.u64.wrap (R.length:Int)=(R.length:Int):=wu_id (by omega) (by omega)
 have hpl:=huntR_plan (fuel:=1073741824) hc
 have htl:=tree_mx hc
 have hth:=tree_holds hc (ok_mx hc)
 rw[bindS e3,bindS e5,bindS (search_Best_eq hc (by omega) (by omega))]
 dsimp only
 have eT:(resR v L P 1073741824).Tree=(huntR v L P 1073741824).1.tree:=rfl
 have eP:(resR v L P 1073741824).Plan=(huntR v L P 1073741824).1.plan:=rfl
 have eS:ref6_Seated 20000 L (huntR v L P 1073741824).1.plan=some (huntR v L P 1073741824).1.most:=by
  rw[ref6_Seated_eq hp.all (by omega) (by omega) hpl.1.len]
  exact congrArg some hpl.2
 have hq:=(hR _).1 (aI_mem (l:=R) u0 u1)
 have hnl:=nedL_len hc (r:=aI R ((IntKind.u64.wrap a3).tmod (R.length:Int)))
 have hsh:=nedL_short hpl.1 hth
 rw[condNT rfl,decide_eq_false (by omega),bindS rfl,cond_false,eT,eP,bindS eS,gdD (by rw[hw];omega),hw,bindS (idx_aI u0 u1),bindS (need_eq2 hc (hq.ok hv)),bindS (holds_eq hc (hq.ok hv) (by omega)),dB_T hq,Bool.true_and,need_holds hc hq,bindS (ref6_Seated_eq hp.all (by omega) (by omega) hq.len),beq_self_eq_true,cNT,bindS law17_told_eq3,cond_true,bindS (holds_eq hc (hpl.1.ok hv) (by omega)),dB_T hpl.1,Bool.true_and,hth,cond_true,bindS (need_eq2 hc (hpl.1.ok hv)),decide_eq_true (by omega)]
end
end Go.Px
