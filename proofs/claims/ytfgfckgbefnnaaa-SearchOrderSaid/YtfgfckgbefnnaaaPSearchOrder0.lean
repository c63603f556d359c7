/- The plain law, in parts: Base, Scan, Venue, Make, Kill, KillAsks, KillMore, Run, Runs, Place, PlaceTop, PlaceApart, PlaceKilled, Plan, Plans, PlanPins, Bound, Bounds, BoundAsks, BoundMost, Prop, PropLaws, Hunt, Search, SearchLaws, Best, SearchBest, SearchOrder. -/
import Derived.Test.YtfgfckgbefnnaaaX
set_option linter.unusedVariables false
namespace Go.Px
open Go Go.Sh
theorem um (a m:Int) (h:0 < m):0≤(IntKind.u64.wrap a).tmod m∧(IntKind.u64.wrap a).tmod m < m:=by
 have h0:0≤IntKind.u64.wrap a:=by
  rw[IntKind.wrap_u64];omega
 exact⟨Int.tmod_nonneg _ h0,Int.tmod_lt_of_pos _ h⟩
theorem wr_id {x:Int} (h1 : -9223372036854775808≤x) (h2:x≤9223372036854775807):wr x=x:=w64 h1 h2
section
variable {α β:Type}
theorem condT {c:Bool} {a b : α} (h:c=true):cond c a b=a:=by rw[h];rfl
theorem condF {c:Bool} {a b : α} (h:c=false):cond c a b=b:=by rw[h];rfl
theorem condD {p:Prop} {_:Decidable p} {a b : α} (h:p):cond (decide p) a b=a:=by rw[decide_eq_true h];rfl
theorem condN {p:Prop} {_:Decidable p} {a b : α} (h:¬p):cond (decide p) a b=b:=by rw[decide_eq_false h];rfl
theorem gdD {p:Prop} {_:Decidable p} {r:Option α} (h:p):gd (decide p) r=r:=by rw[decide_eq_true h];rfl
theorem elim_go {γ:Type} {a : α} {f : α → γ} {g : β → γ} : Ex.elim (.go a) f g=f a:=(exg rfl).symm
theorem elim_rt {γ:Type} {b : β} {f : α → γ} {g : β → γ} : Ex.elim (.rt b) f g=g b:=(exr rfl).symm
theorem bindS {x:Option α} {a : α} {f : α→Option β} (h:x=some a):Option.bind x f=f a:=by rw[h];rfl
theorem idx_get {l:List α} {i:Int} {y : α} (h0:0≤i) (h:l[i.toNat]?=some y):idx l i=some y:=by unfold idx;rw[if_pos h0,h]
theorem idx_nat {l:List α} {n:Nat} (h:n < l.length):idx l (n:Int)=some l[n]:=idx_get (by omega) (by rw[Int.toNat_natCast];exact List.getElem?_eq_getElem h)
end
theorem wr_succ {i:Nat} (h:i < 4294967296):wr ((i:Int)+1)=((i+1:Nat):Int):=by rw[wr_id (by omega) (by omega)];omega
end Go.Px

set_option linter.unusedVariables false
namespace Go.Px
open Go Go.Sh
section
variable {ρ α:Type}
theorem gather {f:Nat→List α→Int→Option (List α)} {len c:Nat} (p:Nat→Bool) (g:Nat → α)
  (hs:∀(n i:Nat) v,i < len→v.length≤c+i→f (n+1) v (i:Int)=f n (if p i then v++[g i] else v) ((i+1:Nat):Int))
  (he:∀n v,f (n+1) v (len:Int)=some v):∀(d n i:Nat) v,i+d=len→d < n→v.length≤c+i→f n v (i:Int)=some (v++((List.range' i d).filter p).map g)
 | d,0,i,v,_,h,_=>absurd h (by omega)
 | 0,n+1,i,v,hi,_,_=>by
  obtain rfl:i=len:=by omega
  rw[he]
  simp
 | d+1,n+1,i,v,hi,h,hv=>by
  rw[hs n i v (by omega) hv]
  have:=gather p g hs he d n (i+1) (if p i then v++[g i] else v) (by omega) (by omega) (by split <;> (try rw[List.length_append,List.length_singleton]) <;> omega)
  rw[this,List.range'_succ,List.filter_cons]
  cases p i <;> simp
theorem gather0 {f:Nat→List α→Int→Option (List α)} {len c:Nat} (p:Nat→Bool) (g:Nat → α)
  (hs:∀(n i:Nat) v,i < len→v.length≤c+i→f (n+1) v (i:Int)=f n (if p i then v++[g i] else v) ((i+1:Nat):Int))
  (he:∀n v,f (n+1) v (len:Int)=some v) {k:Nat} (hk:len < k) (v:List α) (hv:v.length≤c):f k v 0=some (v++((List.range len).filter p).map g):=by
 rw[List.range_eq_range']
 exact gather p g hs he len k 0 v (by omega) hk (by omega)
end
theorem cNT {α:Type} {a b : α} : cond (!true) a b=b:=rfl
theorem cNF {α:Type} {a b : α} : cond (!false) a b=a:=rfl
theorem condNT {p:Prop} [Decidable p] {α:Type} {a b : α} (h:p):cond (!decide p) a b=b:=by rw[decide_eq_true h];rfl
theorem condNF {p:Prop} [Decidable p] {α:Type} {a b : α} (h:¬p):cond (!decide p) a b=a:=by rw[decide_eq_false h];rfl
theorem condAnd {p q:Prop} [Decidable p] [Decidable q] {x:Option Bool} (h:x=some (decide q)):cond (decide p) x (some false)=some (decide (p∧q)):=by
 by_cases hp:p
 ·rw[condD hp,h];simp [hp]
 ·rw[condN hp];simp [hp]
end Go.Px

set_option linter.unusedVariables false
set_option linter.unusedSimpArgs false
namespace Go.Px
open Go Go.Sh
abbrev InP (x a b:Int):Prop:=a≤x∧x≤b
abbrev CoordP (x:Int):Prop:=InP x (-1048576) 1048576
abbrev SeatP (s:Seat):Prop:=InP s.Row 0 999∧CoordP s.X∧CoordP s.Y∧InP s.Kind 0 2
abbrev LessP (a b:Seat):Prop:=a.Row < b.Row∨(a.Row=b.Row∧a.X < b.X)
abbrev SeatsP (l:List Seat):Prop:=∀j,j < l.length→∀s,l[j]?=some s→SeatP s∧(0 < j→∀r,l[j-1]?=some r→LessP r s)
abbrev KillsP (l:List Int) (m:Int):Prop:=∀j,j < l.length→∀s,l[j]?=some s→0≤s∧s < m∧(0 < j→∀r,l[j-1]?=some r→r < s)
abbrev PolesP (l:List Pole):Prop:=∀j,j < l.length→∀s,l[j]?=some s→CoordP s.X∧CoordP s.Y∧InP s.R 1 1048576
structure MayV (v:Venue):Prop where
 seats:SeatsP v.Seats
 n0:1≤v.Seats.length
 n1:v.Seats.length≤4096
 gap:InP v.Gap 1 1048576
 radius:InP v.Radius 0 1048576
 kills:KillsP v.Kills v.Seats.length
 k1:v.Kills.length≤200
 poles:PolesP v.Poles
 p1:v.Poles.length≤200
open Classical in
noncomputable def mayB (v:Venue):Bool:=decide (MayV v)
open Classical in
theorem mayB_iff {v:Venue} : mayB v=true ↔ MayV v:=by unfold mayB;exact decide_eq_true_iff
theorem some_get {α:Type} {l:List α} {i:Nat} (h:i < l.length):∃s,l[i]?=some s∧idx l (i:Int)=some s:=⟨l[i],List.getElem?_eq_getElem h,idx_nat h⟩
end Go.Px

set_option linter.unusedVariables false
set_option linter.unusedSimpArgs false
namespace Go.Px
open Go Go.Sh
theorem snoc_get {α:Type} {l:List α} {x s : α} {j:Nat} (h:(l++[x])[j]?=some s):(j < l.length∧l[j]?=some s)∨(j=l.length∧s=x):=by
 rcases Nat.lt_or_ge j l.length with hl | hl
 ·rw[List.getElem?_append_left hl] at h
  exact .inl ⟨hl,h⟩
 ·rw[List.getElem?_append_right hl] at h
  rcases Nat.eq_or_lt_of_le hl with e | hl
  ·rw[← e,Nat.sub_self] at h
   simp at h
   exact .inr ⟨e.symm,h.symm⟩
  ·rw[List.getElem?_eq_none (by simp;omega)] at h
   cases h
theorem SeatsP.snoc {l:List Seat} {x:Seat} (h:SeatsP l) (hx:SeatP x) (hl:∀r,l[l.length-1]?=some r→LessP r x):SeatsP (l++[x]):=by
 intro j hj s hs
 rcases snoc_get hs with⟨h1,h2⟩ | ⟨h1,rfl⟩
 ·refine⟨(h j h1 s h2).1,fun h0 r hr=>(h j h1 s h2).2 h0 r ?_⟩
  rcases snoc_get hr with⟨_,hr⟩ | ⟨e,_⟩
  ·exact hr
  ·omega
 ·refine⟨hx,fun h0 r hr=>?_⟩
  rcases snoc_get hr with⟨_,hr⟩ | ⟨e,_⟩
  ·rw[h1] at hr
   exact hl r hr
  ·omega
theorem KillsP.snoc {l:List Int} {x m:Int} (h:KillsP l x) (h0:0≤x) (hx:x < m):KillsP (l++[x]) m:=by
 intro j hj s hs
 rcases snoc_get hs with⟨h1,h2⟩ | ⟨h1,rfl⟩
 ·obtain⟨a,b,c⟩:=h j h1 s h2
  refine⟨a,by omega,fun h0 r hr=>c h0 r ?_⟩
  rcases snoc_get hr with⟨_,hr⟩ | ⟨e,_⟩
  ·exact hr
  ·omega
 ·refine⟨h0,hx,fun h0 r hr=>?_⟩
  rcases snoc_get hr with⟨hl,hr⟩ | ⟨e,_⟩
  ·exact(h _ hl r hr).2.1
  ·omega
theorem KillsP.mono {l:List Int} {x m:Int} (h:KillsP l x) (hx:x≤m):KillsP l m:=fun j hj s hs=>by
 obtain⟨a,b,c⟩:=h j hj s hs
 exact⟨a,by omega,c⟩
theorem PolesP.snoc {l:List Pole} {x:Pole} (h:PolesP l) (hx:CoordP x.X∧CoordP x.Y∧InP x.R 1 1048576):PolesP (l++[x]):=by
 intro j hj s hs
 rcases snoc_get hs with⟨h1,h2⟩ | ⟨h1,rfl⟩
 ·exact h j h1 s h2
 ·exact hx
structure MkI (S:List Seat) (rad:Int) (K:List Int) (P:List Pole) (row x:Int) (i:Nat):Prop where
 len:S.length=i+1
 seats:SeatsP S
 last:∀r,S[S.length-1]?=some r→r.Row=row∧r.X=x
 r0:0≤row
 r1:row≤i
 x0:0≤x
 x1:x≤15 * (i:Int)
 rad0:InP rad 0 24
 kills:KillsP K S.length
 kl:K.length≤S.length
 poles:PolesP P
 pl:P.length≤S.length
 sm:∀s,s ∈ S→InP s.X 0 (15 * (i:Int))∧InP s.Y 0 (10 * (i:Int))
structure MkF (m:Nat) (o:List Seat×Int×List Int×List Pole):Prop where
 seats:SeatsP o.1
 n0:1≤o.1.length
 n1:o.1.length≤m
 rad:InP o.2.1 0 24
 kills:KillsP o.2.2.1 o.1.length
 kl:o.2.2.1.length≤m
 poles:PolesP o.2.2.2
 pl:o.2.2.2.length≤m
 sm:∀s,s ∈ o.1→InP s.X 0 1500∧InP s.Y 0 1000
theorem make_l0 (k:Nat) (l:List Int) (m:Nat) (hm:m≤100):∀(n:Nat) S rad K P row x (i:Nat),MkI S rad K P row x i→S.length≤m→m-S.length < n→∃o,law3_Make_l0 k l (m:Int) n S rad K P row x (i:Int)=some o∧MkF m o
 | 0,S,rad,K,P,row,x,i,_,_,h=>absurd h (by omega)
 | n+1,S,rad,K,P,row,x,i,hI,hS,hn=>by
  have hlen:=hI.len
  have hx0:=hI.x0
  have hx1:=hI.x1
  have hr0:=hI.r0
  have hr1:=hI.r1
  have hkl:=hI.kl
  have hpl:=hI.pl
  rw[law3_Make_l0]
  by_cases hc:i < l.length∧S.length < m
  ·rw[condD (by omega),bindS rfl,condD (by omega)]
   obtain⟨y,_,e2⟩:=some_get hc.1
   rw[bindS e2]
   have h108:∃o:Int×Int,(cond (decide (((IntKind.u64.wrap y).tmod 7)=0)) (some (wr (row+1),0)) (cond (decide (((IntKind.u64.wrap y).tmod 7)=1)) (some (row,wr ((wr (x+10))+5))) (some (row,wr (x+10)))))=some o∧((o.1=row+1∧o.2=0)∨(o.1=row∧x < o.2∧o.2≤x+15)):=by
    rw[wr_id (x:=row+1) (by omega) (by omega),wr_id (x:=x+10) (by omega) (by omega),wr_id (x:=x+10+5) (by omega) (by omega)]
    by_cases c1:(IntKind.u64.wrap y).tmod 7=0
    ·rw[condD c1];exact⟨_,rfl,.inl ⟨rfl,rfl⟩⟩
    rw[condN c1]
    by_cases c2:(IntKind.u64.wrap y).tmod 7=1
    ·rw[condD c2];exact⟨_,rfl,.inr ⟨rfl,by simp only;omega,by simp only;omega⟩⟩
    ·rw[condN c2];exact⟨_,rfl,.inr ⟨rfl,by simp only;omega,by simp only;omega⟩⟩
   obtain⟨o,e108,ho⟩:=h108
   rw[bindS e108]
   have h116:∃kd:Int,(cond (decide (((IntKind.u64.wrap ((IntKind.u64.wrap y).tdiv 7)).tmod 6)=0)) (some (1:Int)) (cond (decide (((IntKind.u64.wrap ((IntKind.u64.wrap y).tdiv 7)).tmod 6)=1)) (some 2) (cond (decide (((IntKind.u64.wrap ((IntKind.u64.wrap y).tdiv 7)).tmod 6)=2)) (some 2) (some 0))))=some kd∧InP kd 0 2:=by
    generalize (IntKind.u64.wrap ((IntKind.u64.wrap y).tdiv 7)).tmod 6=q
    by_cases c1:q=0
    ·rw[condD c1];exact⟨_,rfl,by omega⟩
    rw[condN c1]
    by_cases c2:q=1
    ·rw[condD c2];exact⟨_,rfl,by omega⟩
    rw[condN c2]
    by_cases c3:q=2
    ·rw[condD c3];exact⟨_,rfl,by omega⟩
    ·rw[condN c3];exact⟨_,rfl,by omega⟩
   obtain⟨kd,e116,hkd⟩:=h116
   have hrow:wr (10 * o.1)=10 * o.1:=wr_id (by omega) (by omega)
   have hl1:(S++[Seat.mk o.1 o.2 (10 * o.1) kd]).length=S.length+1:=by simp
   rw[bindS e116,hrow,gdD (by simp only[List.length_singleton];omega),hl1,show wr (((S.length+1:Nat):Int)-1)=(S.length:Int) by rw[wr_id (by omega) (by omega)];omega]
   have h125:∃K',(cond (decide (((IntKind.u64.wrap ((IntKind.u64.wrap y).tdiv 42)).tmod 9)=0)) (gd (decide (K.length+([(S.length:Int)]).length≤4294967296)) (some (K++[(S.length:Int)]))) (some K))=some K'∧KillsP K' ((S.length+1:Nat):Int)∧K'.length≤S.length+1:=by
    generalize (IntKind.u64.wrap ((IntKind.u64.wrap y).tdiv 42)).tmod 9=q
    by_cases c1:q=0
    ·rw[condD c1,gdD (by simp only[List.length_singleton];omega)]
     exact⟨_,rfl,hI.kills.snoc (by omega) (by omega),by simp;omega⟩
    ·rw[condN c1]
     exact⟨_,rfl,hI.kills.mono (by omega),by omega⟩
   obtain⟨K',e125,hK,hKl⟩:=h125
   rw[bindS e125]
   obtain⟨q0,q1⟩:=um ((IntKind.u64.wrap y).tdiv 500) 12 (by omega)
   have h132:∃P',(cond (decide (((IntKind.u64.wrap ((IntKind.u64.wrap y).tdiv 42)).tmod 11)=1)) (gd (decide (P.length+([Pole.mk o.2 (10 * o.1) (wr (1+(wr ((IntKind.u64.wrap ((IntKind.u64.wrap y).tdiv 500)).tmod 12))))]).length≤4294967296)) (some (P++[Pole.mk o.2 (10 * o.1) (wr (1+(wr ((IntKind.u64.wrap ((IntKind.u64.wrap y).tdiv 500)).tmod 12))))]))) (some P))=some P'∧PolesP P'∧P'.length≤S.length+1:=by
    generalize (IntKind.u64.wrap ((IntKind.u64.wrap y).tdiv 42)).tmod 11=q
    rw[wr_id (x:=(IntKind.u64.wrap ((IntKind.u64.wrap y).tdiv 500)).tmod 12) (by omega) (by omega),wr_id (x:=1+(IntKind.u64.wrap ((IntKind.u64.wrap y).tdiv 500)).tmod 12) (by omega) (by omega)]
    by_cases c1:q=1
    ·rw[condD c1,gdD (by simp only[List.length_singleton];omega)]
     exact⟨_,rfl,hI.poles.snoc ⟨by simp only;omega,by simp only;omega,by simp only;omega⟩,by simp;omega⟩
    ·rw[condN c1]
     exact⟨_,rfl,hI.poles,by omega⟩
   obtain⟨P',e132,hP,hPl⟩:=h132
   rw[bindS e132,wr_succ (by omega)]
   obtain⟨w0,w1⟩:=um ((IntKind.u64.wrap y).tdiv 300) 25 (by omega)
   have hN:∀rad',InP rad' 0 24→MkI (S++[Seat.mk o.1 o.2 (10 * o.1) kd]) rad' K' P' o.1 o.2 (i+1):=fun rad' hr=>by
    refine⟨by rw[hl1];omega,hI.seats.snoc ⟨by simp only;omega,by simp only;omega,by simp only;omega,hkd⟩ (fun r hr=>?_),fun r hr=>?_,by omega,by omega,by omega,by omega,hr,by rw[hl1];exact hK,by rw[hl1];exact hKl,hP,by rw[hl1];exact hPl,fun s hs=>?_⟩
    ·obtain⟨a,b⟩:=hI.last r hr
     show r.Row < o.1∨(r.Row=o.1∧r.X < o.2)
     omega
    ·rw[hl1] at hr
     rcases snoc_get hr with⟨h1,h2⟩ | ⟨_,rfl⟩
     ·omega
     ·exact⟨rfl,rfl⟩
    ·rcases List.mem_append.1 hs with h | h
     ·have:=hI.sm s h
      exact⟨by omega,by omega⟩
     ·rw[List.mem_singleton] at h
      subst h
      exact⟨by simp only;omega,by simp only;omega⟩
   have hrec:∀rad',InP rad' 0 24→∃o',law3_Make_l0 k l (m:Int) n (S++[Seat.mk o.1 o.2 (10 * o.1) kd]) rad' K' P' o.1 o.2 ((i+1:Nat):Int)=some o'∧MkF m o':=fun rad' hr =>
    make_l0 k l m hm n _ rad' K' P' o.1 o.2 (i+1) (hN rad' hr) (by rw[hl1];omega) (by rw[hl1];omega)
   generalize (IntKind.u64.wrap ((IntKind.u64.wrap y).tdiv 42)).tmod 5=q
   by_cases c1:q=3
   ·rw[condD c1,wr_id (x:=(IntKind.u64.wrap ((IntKind.u64.wrap y).tdiv 300)).tmod 25) (by omega) (by omega)]
    exact hrec _ (by omega)
   ·rw[condN c1]
    exact hrec _ hI.rad0
  ·have:(cond (decide ((i:Int) < (l.length:Int))) (some (decide ((S.length:Int) < (m:Int)))) (some false))=some false:=by
    by_cases c1:i < l.length
    ·rw[condD (by omega),decide_eq_false (by omega)]
    ·rw[condN (by omega)]
   rw[this,bindS rfl,condF rfl]
   exact⟨_,rfl,hI.seats,by simp only;omega,hS,hI.rad0,hI.kills,by simp only;omega,hI.poles,by simp only;omega,fun s hs=>by have:=hI.sm s hs;exact⟨by omega,by omega⟩⟩
structure MadeV (m:Nat) (v:Venue):Prop where
 may:MayV v
 n1:v.Seats.length≤m
 gap:v.Gap=10
 rad:InP v.Radius 0 24
 kl:v.Kills.length≤m
 pl:v.Poles.length≤m
 sm:∀s,s ∈ v.Seats→InP s.X 0 1500∧InP s.Y 0 1000
theorem law3_Make_eq (k:Nat) (l:List Int) (m:Nat) (h1:1≤m) (hm:m≤100) (hk:100≤k):∃v,law3_Make k l (m:Int)=some v∧MadeV m v:=by
 unfold law3_Make
 have hI:MkI [Seat.mk 0 0 0 0] 0 [] [] 0 0 0:=by
  refine⟨rfl,?_,?_,by omega,by omega,by omega,by omega,by omega,?_,by simp,?_,by simp,fun s hs=>by rw[List.mem_singleton] at hs;subst hs;exact⟨by simp only;omega,by simp only;omega⟩⟩
  ·intro j hj s hs
   have:j=0:=by simp at hj;omega
   subst this
   simp at hs
   subst hs
   exact⟨by decide,fun h=>absurd h (by omega)⟩
  ·intro r hr
   simp at hr
   subst hr
   exact⟨rfl,rfl⟩
  ·intro j hj
   simp at hj
  ·intro j hj
   simp at hj
 obtain⟨o,e,h⟩:=make_l0 k l m hm k _ _ _ _ _ _ 0 hI (by simpa using h1) (by simp;omega)
 have e':law3_Make_l0 k l (m:Int) k [Seat.mk 0 0 0 0] 0 [] [] 0 0 0=some o:=e
 rw[bindS e']
 have a1:=h.n1
 have a2:=h.kl
 have a3:=h.pl
 have a4:=h.rad
 exact⟨_,rfl,⟨h.seats,h.n0,by simp only;omega,by simp only;omega,by simp only;omega,h.kills,by simp only;omega,h.poles,by simp only;omega⟩,h.n1,rfl,h.rad,h.kl,h.pl,h.sm⟩
end Go.Px

set_option linter.unusedVariables false
set_option linter.unusedSimpArgs false
namespace Go.Px
open Go Go.Sh
def far (a b:Seat):Int:=if CoordP a.X∧CoordP a.Y∧CoordP b.X∧CoordP b.Y then (a.X-b.X) * (a.X-b.X)+(a.Y-b.Y) * (a.Y-b.Y) else 0
def closeB (a b:Seat) (r:Int):Bool:=decide (far a b < wr (r * r))
def poleS (p:Pole):Seat:=Seat.mk 0 p.X p.Y 0
instance:Inhabited Seat:=⟨Seat.mk 0 0 0 0⟩
def poleB (v:Venue) (s j:Nat):Bool:=closeB (v.Seats.getD s default) (poleS (v.Poles.getD j default)) (v.Poles.getD j default).R
def killL (v:Venue) (s:Nat):List Int:=(if (s:Int) ∈ v.Kills then [-1] else [])++((List.range v.Poles.length).filter (poleB v s)).map (fun j:Nat=>(j:Int))
theorem getD_of {α:Type} {l:List α} {i:Nat} {s d : α} (h:l[i]?=some s):l.getD i d=s:=by rw[List.getD_eq_getElem?_getD,h];rfl
def deadB (v:Venue) (s:Nat):Bool:=decide ((killL v s).length=0)
def usL (v:Venue):List Bool:=(List.range v.Seats.length).map (deadB v)
structure Small (k:Nat) (v:Venue):Prop where
 hs:v.Seats.length < k
 hk:v.Kills.length < k
 hp:v.Poles.length < k
 b:k≤4294967290
 b3:3≤k
end Go.Px

set_option linter.unusedVariables false
set_option linter.unusedSimpArgs false
namespace Go.Px
open Go Go.Sh
end Go.Px

set_option linter.unusedVariables false
set_option linter.unusedSimpArgs false
namespace Go.Px
open Go Go.Sh
end Go.Px

set_option linter.unusedVariables false
set_option linter.unusedSimpArgs false
namespace Go.Px
open Go Go.Sh
def freeB (v:Venue) (U:List Bool) (s:Int):Bool:=decide (0≤s∧s < v.Seats.length) && (U[s.toNat]?).getD false
def seatA (v:Venue) (s:Int):Seat:=v.Seats.getD s.toNat default
def nextB (v:Venue) (s:Int):Bool:=decide (0≤s∧s+1 < v.Seats.length) && (decide ((seatA v (s+1)).Row=(seatA v s).Row) && decide (wr ((seatA v (s+1)).X-(seatA v s).X)≤v.Gap))
theorem seat_idx {v:Venue} {s:Int} (h0:0≤s) (h:s < v.Seats.length):idx v.Seats s=some (seatA v s):=by
 obtain⟨j,rfl⟩:=Int.eq_ofNat_of_zero_le h0
 obtain⟨t,e1,e2⟩:=some_get (l:=v.Seats) (i:=j) (by omega)
 rw[e2]
 unfold seatA
 rw[Int.toNat_natCast,getD_of e1]
theorem ref6_seat_eq (k:Nat) (v:Venue) (s:Int):ref6_seat k v s=some (decide (0≤s∧s < v.Seats.length)):=by
 unfold ref6_seat
 exact condAnd rfl
theorem ref6_next_eq (k:Nat) (v:Venue) (s:Int) (h0 : -1≤s) (h1:s < 4611686018427387904) (hl:v.Seats.length≤4294967290):ref6_next k v s=some (nextB v s):=by
 unfold ref6_next nextB
 rw[bindS (ref6_seat_eq _ _ _),wr_id (x:=s+1) (by omega) (by omega),bindS (ref6_seat_eq _ _ _)]
 by_cases h2:0≤s∧s < v.Seats.length
 ·rw[condD h2]
  by_cases h3:0≤s+1∧s+1 < v.Seats.length
  ·rw[condD h3,bindS (seat_idx (by omega) (by omega)),bindS (seat_idx (by omega) (by omega)),decide_eq_true (p:=0≤s∧s+1 < (v.Seats.length:Int)) (by omega),Bool.true_and]
   by_cases h4:(seatA v (s+1)).Row=(seatA v s).Row
   ·rw[condD h4.symm,bindS (seat_idx (by omega) (by omega)),bindS (seat_idx (by omega) (by omega)),decide_eq_true h4,Bool.true_and]
   ·rw[condN (fun h=>h4 h.symm),decide_eq_false h4,Bool.false_and]
  ·rw[condN h3,decide_eq_false (by omega),Bool.false_and]
 ·rw[condN h2,decide_eq_false (by omega),Bool.false_and]
def onB (v:Venue) (U:List Bool) (s:Int) (i:Nat):Bool:=freeB v U (s+i) && (decide (i=0) || nextB v (s+i-1))
structure Pre (p:Nat→Bool) (m r:Nat):Prop where
 le:r≤m
 all:∀j,j < r→p j=true
 stop:r < m→p r=false
theorem Pre.uniq {p:Nat→Bool} {m r r':Nat} (h:Pre p m r) (h':Pre p m r'):r=r':=by
 rcases Nat.lt_trichotomy r r' with hl | hl | hl
 ·have h1:=h'.all r hl
  have h2:=h.stop (by have:=h'.le;omega)
  rw[h1] at h2
  cases h2
 ·exact hl
 ·have h1:=h.all r' hl
  have h2:=h'.stop (by have:=h.le;omega)
  rw[h1] at h2
  cases h2
theorem Pre.cut {p:Nat→Bool} {m n r r':Nat} (h:Pre p m r) (h':Pre p n r') (hm:m≤n):r=min m r':=by
 refine h.uniq ⟨by omega,fun j hj=>h'.all j (by omega),fun hl=>?_⟩
 have:min m r'=r':=by omega
 rw[this] at hl ⊢
 exact h'.stop (by omega)
theorem free_low {v:Venue} {U:List Bool} {s:Int} (h:freeB v U s=true):0≤s∧s < v.Seats.length:=by
 unfold freeB at h
 rw[Bool.and_eq_true,decide_eq_true_iff] at h
 exact h.1
theorem next_low {v:Venue} {s:Int} (h:nextB v s=true):0≤s∧s+1 < v.Seats.length:=by
 unfold nextB at h
 rw[Bool.and_eq_true,decide_eq_true_iff] at h
 exact h.1
theorem onB_zero (v:Venue) (U:List Bool) (s:Int):onB v U s 0=freeB v U s:=by
 unfold onB
 simp
theorem ref6_is_eq (k:Nat) (U:List Bool) (s:Int) (h0:0≤s):ref6_is k U s=some ((U[s.toNat]?).getD false):=by
 unfold ref6_is
 rw[condD h0]
 by_cases h3:s < (U.length:Int)
 ·have h:=List.getElem?_eq_getElem (l:=U) (i:=s.toNat) (by omega)
  rw[condD h3,bindS (idx_get (by omega) h),h];rfl
 ·rw[condN h3,List.getElem?_eq_none (by omega)];rfl
theorem ref6_long_l0_eq (k:Nat) (v:Venue) (U:List Bool) (s:Int) (hs:0≤s∧s < v.Seats.length) (hl:v.Seats.length≤4294967290):∀(d n i:Nat),i+d=v.Seats.length→d < n→0 < i→(∀j,j < i→onB v U s j=true)→∃r:Nat,ref6_long_l0 k v U s n (i:Int)=some (r:Int)∧Pre (onB v U s) v.Seats.length r
 | d,0,i,_,h,_,_=>absurd h (by omega)
 | d,n+1,i,hi,h,h0,ha=>by
  rw[ref6_long_l0,wr_id (x:=s+(i:Int)) (by omega) (by omega),wr_id (x:=s+(i:Int)-1) (by omega) (by omega),bindS (ref6_next_eq _ _ _ (by omega) (by omega) hl),bindS (ref6_is_eq _ _ _ (by omega)),wr_succ (by omega)]
  have hstop:(i < v.Seats.length→onB v U s i=false)→∃r:Nat,(some (i:Int))=some (r:Int)∧Pre (onB v U s) v.Seats.length r:=fun h=>⟨i,rfl,by omega,ha,h⟩
  cases hn:nextB v (s+i-1)
  ·rw[condF rfl]
   exact hstop fun _=>by unfold onB;rw[hn,decide_eq_false (by omega),Bool.or_false,Bool.and_false]
  ·have hlow:=next_low hn
   obtain⟨d,rfl⟩:∃q,d=q+1:=⟨d-1,by omega⟩
   rw[condT rfl]
   cases hu:(U[(s+(i:Int)).toNat]?).getD false
   ·rw[condF rfl]
    exact hstop fun _=>by unfold onB freeB;rw[hu,Bool.and_false,Bool.false_and]
   ·rw[condT rfl]
    have hok:onB v U s i=true:=by unfold onB freeB;rw[hn,hu,decide_eq_true (by omega)];simp
    exact ref6_long_l0_eq k v U s hs hl d n (i+1) (by omega) (by omega) (by omega) (fun j hj=>by
     rcases Nat.lt_or_ge j i with hh | hh
     ·exact ha j hh
     ·rw[show j=i by omega];exact hok)
theorem ref6_long_eq (k:Nat) (v:Venue) (U:List Bool) (s:Int) (hl:v.Seats.length < k) (hk:k≤4294967290):∃r:Nat,ref6_long k v U s=some (r:Int)∧Pre (onB v U s) v.Seats.length r:=by
 unfold ref6_long
 rw[bindS (ref6_seat_eq _ _ _)]
 have hzero:freeB v U s=false→∃r:Nat,(some (0:Int))=some (r:Int)∧Pre (onB v U s) v.Seats.length r:=fun h=>⟨0,rfl,by omega,fun j hj=>by omega,fun _=>by rw[onB_zero,h]⟩
 by_cases h1:0≤s∧s < v.Seats.length
 ·rw[condNT h1,bindS (ref6_is_eq _ _ _ h1.1),bindS rfl]
  cases hu:(U[s.toNat]?).getD false
  ·rw[cNF]
   exact hzero (by unfold freeB;rw[hu,Bool.and_false])
  ·rw[cNT]
   have hf:freeB v U s=true:=by unfold freeB;rw[hu,decide_eq_true h1];rfl
   obtain⟨r,e,h⟩:=ref6_long_l0_eq k v U s h1 (by omega) (v.Seats.length-1) k 1 (by omega) (by omega) (by omega) (fun j hj=>by
    obtain rfl:j=0:=by omega
    rw[onB_zero,hf])
   have e:ref6_long_l0 k v U s k 1=_:=e
   exact⟨r,by rw[bindS e],h⟩
 ·rw[condNF h1,bindS rfl,condT rfl]
  exact hzero (by unfold freeB;rw[decide_eq_false h1,Bool.false_and])
noncomputable def runN (v:Venue) (U:List Bool) (s:Int):Nat:=(ref6_long 4294967290 v U s).getD 0 |>.toNat
theorem runN_pre {v:Venue} {U:List Bool} {s:Int} (hl:v.Seats.length < 4294967290):Pre (onB v U s) v.Seats.length (runN v U s):=by
 obtain⟨r,e,h⟩:=ref6_long_eq 4294967290 v U s hl (by omega)
 unfold runN
 rw[e]
 exact h
theorem runN_pos {v:Venue} {U:List Bool} {s:Int} (hl:v.Seats.length < 4294967290) (h:0 < runN v U s):0≤s∧s+runN v U s≤v.Seats.length:=by
 have hp:=runN_pre (v:=v) (U:=U) (s:=s) hl
 have h1:=hp.all (runN v U s-1) (by omega)
 have h0:=hp.all 0 h
 rw[onB_zero] at h0
 have h0:=free_low h0
 unfold onB at h1
 rw[Bool.and_eq_true] at h1
 have h1:=free_low h1.1
 omega
end Go.Px

set_option linter.unusedVariables false
set_option linter.unusedSimpArgs false
namespace Go.Px
open Go Go.Sh
end Go.Px

set_option linter.unusedVariables false
set_option linter.unusedSimpArgs false
namespace Go.Px
open Go Go.Sh
abbrev MayP (p:Party):Prop:=1≤p.Size∧p.Size≤8∧0≤p.Wheels∧p.Wheels≤2∧2 * p.Wheels≤p.Size
theorem party_May_eq (k:Nat) (p:Party):party_May k p=some (decide (MayP p)):=by
 unfold party_May
 by_cases h1:p.Size < 1
 ·rw[condD h1,decide_eq_false (by omega)]
 by_cases h2:8 < p.Size
 ·rw[condN h1,condD h2,decide_eq_false (by omega)]
 by_cases h3:p.Wheels < 0
 ·rw[condN h1,condN h2,condD h3,decide_eq_false (by omega)]
 by_cases h4:p.Wheels≤2
 ·rw[condN h1,condN h2,condN h3,condD h4,wr_id (by omega) (by omega)]
  congr 1
  rw[decide_eq_decide]
  omega
 ·rw[condN h1,condN h2,condN h3,condN h4,decide_eq_false (by omega)]
def kd (v:Venue) (s:Int) (m:Nat) (j:Int):Int:=if 0≤j∧j < m then (seatA v (s+j)).Kind else 0
def kF (v:Venue) (s:Int) (m:Nat):Nat→Nat→Int→Int→Ex (Int×Int) Bool
 | 0,_,w,c => .go (w,c)
 | d+1,j,w,c=>if kd v s m j=1 then (if ¬kd v s m ((j:Int)-1)=2∧¬kd v s m ((j:Int)+1)=2 then .rt false else kF v s m d (j+1) (w+1) c) else if kd v s m j=2 then kF v s m d (j+1) w (c+1) else kF v s m d (j+1) w c
def kindsB (v:Venue) (s:Int) (m:Nat) (want:Int):Bool:=match kF v s m m 0 0 0 with
 | .go (w,c)=>decide (w=want∧(want=0→c≤0))
 | .rt b=>b
noncomputable def placeB (v:Venue) (U:List Bool) (p:Party) (s:Int):Bool:=decide (MayP p∧p.Size≤runN v U s) && kindsB v s p.Size.toNat p.Wheels
/- the reference -/
noncomputable def allL (v:Venue) (U:List Bool) (p:Party):List Int:=((List.range v.Seats.length).filter (fun s:Nat=>placeB v U p (s:Int))).map (fun j:Nat=>(j:Int))
/- apart -/
def ApP (v:Venue) (s:Int) (m:Nat) (t:Int) (n:Nat):Prop:=∀x,x < m→∀y,y < n→¬s+(x:Int)=t+(y:Int)∧closeB (seatA v (s+x)) (seatA v (t+y)) v.Radius=false
open Classical in
noncomputable def apB (v:Venue) (s:Int) (m:Nat) (t:Int) (n:Nat):Bool:=decide (ApP v s m t n)
open Classical in
theorem apB_iff {v:Venue} {s:Int} {m:Nat} {t:Int} {n:Nat} : apB v s m t n=true ↔ ApP v s m t n:=by unfold apB;exact decide_eq_true_iff
end Go.Px

set_option linter.unusedVariables false
set_option linter.unusedSimpArgs false
namespace Go.Px
open Go Go.Sh
noncomputable def plB (v:Venue) (p:Party) (s:Int):Bool:=mayB v && placeB v (usL v) p s
theorem placeB_pos {v:Venue} {U:List Bool} {p:Party} {s:Int} (hN:v.Seats.length < 4294967290) (h:placeB v U p s=true):MayP p∧0≤s∧s+p.Size≤v.Seats.length∧p.Size≤runN v U s:=by
 unfold placeB at h
 rw[Bool.and_eq_true,decide_eq_true_iff] at h
 have:=runN_pos (v:=v) (U:=U) (s:=s) hN (by omega)
 exact⟨h.1.1,this.1,by omega,h.1.2⟩
noncomputable def allV (v:Venue) (p:Party):List Int:=cond (mayB v) (allL v (usL v) p) []
noncomputable def aptB (v:Venue) (p:Party) (s:Int) (q:Party) (t:Int):Bool:=plB v p s && (plB v q t && apB v s p.Size.toNat t q.Size.toNat)
end Go.Px

set_option linter.unusedVariables false
set_option linter.unusedSimpArgs false
namespace Go.Px
open Go Go.Sh
theorem far_symm (a b:Seat):far a b=far b a:=by
 unfold far
 by_cases h:CoordP a.X∧CoordP a.Y∧CoordP b.X∧CoordP b.Y
 ·rw[if_pos h,if_pos ⟨h.2.2.1,h.2.2.2,h.1,h.2.1⟩,show b.X-a.X = -(a.X-b.X) by omega,show b.Y-a.Y = -(a.Y-b.Y) by omega,Int.neg_mul_neg,Int.neg_mul_neg]
 ·rw[if_neg h,if_neg (fun h'=>h ⟨h'.2.2.1,h'.2.2.2,h'.1,h'.2.1⟩)]
theorem closeB_symm (a b:Seat) (r:Int):closeB a b r=closeB b a r:=by unfold closeB;rw[far_symm]
theorem ApP_symm {v:Venue} {s:Int} {m:Nat} {t:Int} {n:Nat} (h:ApP v s m t n):ApP v t n s m:=fun y hy x hx=>by
 obtain⟨a,b⟩:=h x hx y hy
 exact⟨fun e=>a e.symm,by rw[closeB_symm];exact b⟩
theorem apB_symm {v:Venue} {s:Int} {m:Nat} {t:Int} {n:Nat} : apB v s m t n=apB v t n s m:=by
 rw[Bool.eq_iff_iff,apB_iff,apB_iff]
 exact⟨ApP_symm,ApP_symm⟩
theorem aptB_symm {v:Venue} {p:Party} {s:Int} {q:Party} {t:Int} : aptB v p s q t=aptB v q t p s:=by
 unfold aptB
 rw[apB_symm]
 cases plB v p s <;> cases plB v q t <;> rfl
/- venues alike in all but kills, poles and radius -/
end Go.Px

set_option linter.unusedVariables false
set_option linter.unusedSimpArgs false
namespace Go.Px
open Go Go.Sh
end Go.Px

set_option linter.unusedVariables false
set_option linter.unusedSimpArgs false
namespace Go.Px
open Go Go.Sh
section
open Classical
noncomputable def dB (p:Prop):Bool:=decide p
theorem dB_iff {p:Prop} : dB p=true ↔ p:=by unfold dB;exact decide_eq_true_iff
theorem dB_T {p:Prop} (h:p):dB p=true:=dB_iff.2 h
theorem dB_F {p:Prop} (h:¬p):dB p=false:=by
 cases e:dB p
 ·rfl
 ·exact absurd (dB_iff.1 e) h
noncomputable def fstF (g:Nat→Prop):Nat→Nat→Int
 | 0,_ => -1
 | d+1,i=>if g i then fstF g d (i+1) else (i:Int)
theorem fstF_no {g:Nat→Prop} : ∀ {d i:Nat},fstF g d i = -1 ↔ ∀j,i≤j→j < i+d→g j
 | 0,i=>⟨fun _ j h1 h2=>absurd h2 (by omega),fun _=>rfl⟩
 | d+1,i=>by
  rw[fstF]
  split
  ·rename_i hg
   rw[fstF_no]
   constructor
   ·intro h j h1 h2
    rcases Nat.lt_or_ge i j with hl | hl
    ·exact h j (by omega) (by omega)
    ·rw[show j=i by omega];exact hg
   ·intro h j h1 h2
    exact h j (by omega) (by omega)
  ·rename_i hg
   constructor
   ·intro h;omega
   ·intro h;exact absurd (h i (by omega) (by omega)) hg
theorem fstF_at {g:Nat→Prop} {m:Nat} : ∀ {d i:Nat},i≤m→m < i+d→(∀j,i≤j→j < m→g j)→¬g m→fstF g d i=(m:Int)
 | 0,i,_,h,_,_=>absurd h (by omega)
 | d+1,i,h1,h2,h3,h4=>by
  rw[fstF]
  split
  ·rename_i hg
   rcases Nat.lt_or_ge i m with hl | hl
   ·exact fstF_at (by omega) (by omega) (fun j a b=>h3 j (by omega) b) h4
   ·exact absurd (show g m by rw[show m=i by omega];exact hg) h4
  ·rename_i hg
   rcases Nat.lt_or_ge i m with hl | hl
   ·exact absurd (h3 i (by omega) hl) hg
   ·rw[show i=m by omega]
end
theorem fstF_all {g:Nat→Prop} {n:Nat} : fstF g n 0 = -1 ↔ ∀j,j < n→g j:=by
 rw[fstF_no]
 exact⟨fun h j hj=>h j (by omega) (by omega),fun h j _ hj=>h j (by omega)⟩
theorem scanF {τ ρ:Type} {F:Nat→Nat→Option (Ex τ ρ)} {len:Nat} (g:Nat→Prop) {t : τ} (r:Nat → ρ)
  (hs:∀n i:Nat,i < len→(∀j,j < i→g j)→g i→F (n+1) i=F n (i+1))
  (hf:∀n i:Nat,i < len→(∀j,j < i→g j)→¬g i→F (n+1) i=some (.rt (r i)))
  (he:∀n,(∀j,j < len→g j)→F (n+1) len=some (.go t)):∀d n i:Nat,i+d=len→d < n→(∀j,j < i→g j)→F n i=some (if fstF g d i = -1 then .go t else .rt (r (fstF g d i).toNat))
 | d,0,i,_,h,_=>absurd h (by omega)
 | 0,n+1,i,hi,_,hg=>by
  obtain rfl:i=len:=by omega
  rw[he n hg,fstF,if_pos rfl]
 | d+1,n+1,i,hi,h,hg=>by
  rw[fstF]
  rcases Classical.em (g i) with hh | hh
  ·rw[hs n i (by omega) hg hh,if_pos hh]
   refine scanF g r hs hf he d n (i+1) (by omega) (by omega) fun j hj=>?_
   rcases Nat.lt_or_ge j i with hl | hl
   ·exact hg j hl
   ·rw[show j=i by omega];exact hh
  ·rw[hf n i (by omega) hg hh,if_neg hh,if_neg (by omega),Int.toNat_natCast]
theorem scanF0 {τ ρ:Type} {F:Nat→Nat→Option (Ex τ ρ)} {len k:Nat} (g:Nat→Prop) {t : τ} (r:Nat → ρ)
  (hs:∀n i:Nat,i < len→(∀j,j < i→g j)→g i→F (n+1) i=F n (i+1))
  (hf:∀n i:Nat,i < len→(∀j,j < i→g j)→¬g i→F (n+1) i=some (.rt (r i)))
  (he:∀n,(∀j,j < len→g j)→F (n+1) len=some (.go t)) (hk:len < k):F k 0=some (if fstF g len 0 = -1 then .go t else .rt (r (fstF g len 0).toNat)) :=
 scanF g r hs hf he len k 0 (by omega) hk (fun j hj=>absurd hj (by omega))
theorem scanB {τ ρ:Type} {F:Nat→Nat→Option (Ex τ ρ)} {len k:Nat} (g:Nat→Prop) {t : τ} {r : ρ}
  (hs:∀n i:Nat,i < len→(∀j,j < i→g j)→g i→F (n+1) i=F n (i+1))
  (hf:∀n i:Nat,i < len→(∀j,j < i→g j)→¬g i→F (n+1) i=some (.rt r))
  (he:∀n,(∀j,j < len→g j)→F (n+1) len=some (.go t)) (hk:len < k):F k 0=some (if dB (∀j,j < len→g j)=true then .go t else .rt r):=by
 rw[scanF0 g (fun _=>r) hs hf he hk]
 rcases Classical.em (∀j,j < len→g j) with h | h
 ·rw[dB_T h,if_pos (fstF_all.2 h),if_pos rfl]
 ·rw[dB_F h,if_neg (fun e=>h (fstF_all.1 e)),if_neg (by simp)]
def aI {α:Type} [Inhabited α] (l:List α) (x:Int) : α:=l.getD x.toNat default
theorem idx_aI {α:Type} [Inhabited α] {l:List α} {x:Int} (h0:0≤x) (h:x < (l.length:Int)):idx l x=some (aI l x):=by
 refine idx_get h0 ?_
 unfold aI
 rw[List.getD_eq_getElem?_getD,List.getElem?_eq_getElem (by omega)]
 rfl
abbrev AllMay (L:List Party):Prop:=L.length≤512∧∀i:Nat,i < L.length→MayP (aI L i)
theorem party_All_1_eq (k:Nat) (p:Party):party_All_1 k p=some (!decide (MayP p)):=by
 unfold party_All_1
 rw[bindS (party_May_eq k p)]
theorem party_All_eq {k:Nat} {L:List Party} (hk:L.length < k) (hb:k≤4294967290):party_All k L=some (dB (AllMay L)):=by
 unfold party_All slices_ContainsFunc_Party slices_IndexFunc_Party
 by_cases hl:(L.length:Int)≤512
 ·rw[condD hl]
  have e:=scanF0 (F:=fun n i=>slices_IndexFunc_Party_l0 k L (fun p4=>party_All_1 k p4) n (i:Int)) (len:=L.length) (k:=k) (fun i=>MayP (aI L i)) (t:=()) (fun i=>(i:Int))
   (fun n i hi _ hg=>by
    rw[slices_IndexFunc_Party_l0,condD (by omega),bindS (idx_aI (by omega) (by omega)),bindS (party_All_1_eq k _),wr_succ (by omega),decide_eq_true hg]
    rfl)
   (fun n i hi _ hg=>by
    rw[slices_IndexFunc_Party_l0,condD (by omega),bindS (idx_aI (by omega) (by omega)),bindS (party_All_1_eq k _),wr_succ (by omega),decide_eq_false hg]
    rfl)
   (fun n _=>by
    rw[slices_IndexFunc_Party_l0,condN (by omega)]) hk
  have e:slices_IndexFunc_Party_l0 k L (fun p4=>party_All_1 k p4) k 0=_:=e
  rw[e]
  rcases Classical.em (∀j:Nat,j < L.length→MayP (aI L j)) with h | h
  ·rw[if_pos (fstF_all.2 h),dB_T ⟨by omega,h⟩,bindS (x:=some _) rfl,elim_go]
   rfl
  ·have hne:¬fstF (fun i:Nat=>MayP (aI L i)) L.length 0 = -1:=fun e=>h (fstF_all.1 e)
   rw[if_neg hne,dB_F (fun x=>h x.2),bindS (x:=some _) rfl,elim_rt,bindS (x:=some _) rfl,bindS (x:=some _) rfl,decide_eq_true (by omega)]
   rfl
 ·rw[condN hl,dB_F (fun h=>hl (by omega))]
/- maps -/
theorem mfind_snd (x:Int):∀(l:List (Int×Int)) (i j:Nat),(mfind l x i).map (·.2)=(mfind l x j).map (·.2)
 | [],_,_=>rfl
 | p::l,i,j=>by
  rw[mfind,mfind]
  split
  ·rfl
  ·exact mfind_snd x l _ _
theorem mget_nil (x:Int):mget [] x=none:=rfl
theorem mget_cons (p:Int×Int) (l:List (Int×Int)) (x:Int):mget (p::l) x=if x=p.1 then some p.2 else mget l x:=by
 unfold mget
 rw[mfind]
 split
 ·rfl
 ·exact mfind_snd x l _ _
theorem mget_mset (x y v:Int):∀l:List (Int×Int),mget (mset l y v) x=if x=y then some v else mget l x
 | []=>by rw[mset,mget_cons,mget_nil]
 | p::l=>by
  rw[mset]
  by_cases h:y=p.1
  ·rw[if_pos h,mget_cons,mget_cons]
   by_cases h2:x=y
   ·rw[if_pos h2,if_pos h2]
   ·rw[if_neg h2,if_neg h2,if_neg (by rw[← h];exact h2)]
  ·rw[if_neg h,mget_cons,mget_cons,mget_mset x y v l]
   by_cases h2:x=y
   ·rw[if_pos h2,if_pos h2,if_neg (by rw[h2];exact h)]
   ·rw[if_neg h2]
    split <;> simp_all
def pmN (P:List Pin):Nat→List (Int×Int)
 | 0=>[]
 | i+1=>mset (pmN P i) (aI P i).Party (aI P i).First
def pinAt (P:List Pin) (x:Int):Option Int:=mget (pmN P P.length) x
def RiseP (P:List Pin):Prop:=∀i j:Nat,i < j→j < P.length→(aI P i).Party < (aI P j).Party
theorem pmN_some {P:List Pin} {x f:Int} : ∀ {n:Nat},mget (pmN P n) x=some f→∃i,i < n∧(aI P (i:Int)).Party=x∧(aI P (i:Int)).First=f
 | 0,h=>by rw[pmN,mget_nil] at h;cases h
 | n+1,h=>by
  rw[pmN,mget_mset] at h
  split at h
  ·rename_i hx
   cases h
   exact⟨n,by omega,hx.symm,rfl⟩
  ·obtain⟨i,h1,h2⟩:=pmN_some h
   exact⟨i,by omega,h2⟩
theorem pmN_get {P:List Pin} (hP:RiseP P) {i:Nat} : ∀ {n:Nat},i < n→n≤P.length→mget (pmN P n) (aI P (i:Int)).Party=some (aI P (i:Int)).First
 | 0,h,_=>absurd h (by omega)
 | n+1,h,hn=>by
  rw[pmN,mget_mset]
  by_cases hi:i=n
  ·rw[hi,if_pos rfl]
  ·have:=hP i n (by omega) (by omega)
   rw[if_neg (by omega)]
   exact pmN_get hP (by omega) (by omega)
theorem pinAt_get {P:List Pin} (hP:RiseP P) {i:Nat} (h:i < P.length):pinAt P (aI P (i:Int)).Party=some (aI P (i:Int)).First:=pmN_get hP h (Nat.le_refl _)
theorem pinAt_some {P:List Pin} {x f:Int} (h:pinAt P x=some f):∃i,i < P.length∧(aI P (i:Int)).Party=x∧(aI P (i:Int)).First=f:=pmN_some h
/- the halls' own words for one hall that may be -/
section
variable {k:Nat} {v:Venue}
theorem plB_in (hv:Small k v) {p:Party} {s:Int} (h:plB v p s=true):MayV v∧MayP p∧0≤s∧s+p.Size≤v.Seats.length:=by
 have hN:=hv.hs
 have hb:=hv.b
 unfold plB at h
 rw[Bool.and_eq_true] at h
 have:=placeB_pos (by omega) h.2
 exact⟨mayB_iff.1 h.1,this.1,this.2.1,this.2.2.1⟩
end
/- pins -/
structure PinG (v:Venue) (L:List Party) (P:List Pin) (i:Nat):Prop where
 lo:0≤(aI P (i:Int)).Party
 hi:(aI P (i:Int)).Party < L.length
 rise:0 < i→(aI P ((i-1:Nat):Int)).Party < (aI P (i:Int)).Party
 pl:plB v (aI L (aI P (i:Int)).Party) (aI P (i:Int)).First=true
 ap:∀j:Nat,j < i→aptB v (aI L (aI P (i:Int)).Party) (aI P (i:Int)).First (aI L (aI P (j:Int)).Party) (aI P (j:Int)).First=true
abbrev PinOK (v:Venue) (L:List Party) (P:List Pin):Prop:=∀i,i < P.length→PinG v L P i
theorem PinOK.rise {v:Venue} {L:List Party} {P:List Pin} (h:PinOK v L P):RiseP P:=by
 intro i j hij hj
 obtain⟨d,rfl⟩:∃d,j=i+1+d:=⟨j-(i+1),by omega⟩
 clear hij
 induction d with
 | zero =>
  have:=(h (i+1) hj).rise (by omega)
  exact this
 | succ d ih =>
  have:=(h (i+1+(d+1)) hj).rise (by omega)
  rw[show i+1+(d+1)-1=i+1+d by omega] at this
  have:=ih (by omega)
  omega
section
variable {k:Nat} {v:Venue} {L:List Party} {P:List Pin}
abbrev InOK (v:Venue) (L:List Party) (P:List Pin):Prop:=MayV v∧PinOK v L P∧AllMay L
/- plans -/
structure OkAt (v:Venue) (L:List Party) (P:List Pin) (r:List Int) (i:Nat):Prop where
 pin:∀f,pinAt P (i:Int)=some f→aI r (i:Int)=f
 pl:¬aI r (i:Int) = -1→plB v (aI L (i:Int)) (aI r (i:Int))=true
 ap:¬aI r (i:Int) = -1→∀j:Nat,j < i→¬aI r (j:Int) = -1→aptB v (aI L (i:Int)) (aI r (i:Int)) (aI L (j:Int)) (aI r (j:Int))=true
theorem elim_fst {n:Nat} {g:Nat→Prop} : (Ex.elim (if fstF g n 0 = -1 then (Ex.go ():Ex Unit Int) else .rt (((fstF g n 0).toNat:Nat):Int)) (fun _=>some (-1:Int)) (fun rr=>some rr))=some (fstF g n 0):=by
 by_cases h:fstF g n 0 = -1
 ·rw[if_pos h,elim_go,h]
 ·rw[if_neg h,elim_rt]
  have:∀d i:Nat,-1≤fstF g d i:=by
   intro d
   induction d with
   | zero=>intro i;rw[fstF];omega
   | succ d ih =>
    intro i
    rw[fstF]
    split
    ·exact ih _
    ·omega
  have:=this n 0
  congr 1
  omega
structure PlanP (v:Venue) (L:List Party) (P:List Pin) (r:List Int):Prop where
 inn:InOK v L P
 len:r.length=L.length
 at_:∀i,i < r.length→OkAt v L P r i
end
end Go.Px

set_option linter.unusedVariables false
set_option linter.unusedSimpArgs false
namespace Go.Px
open Go Go.Sh
theorem aI_lt {α:Type} [Inhabited α] {l m:List α} {i:Nat} (h:i < l.length):aI (l++m) (i:Int)=aI l (i:Int):=by
 unfold aI
 rw[Int.toNat_natCast,List.getD_eq_getElem?_getD,List.getD_eq_getElem?_getD,List.getElem?_append_left h]
theorem aI_last {α:Type} [Inhabited α] {l:List α} {x : α} {i:Nat} (h:i=l.length):aI (l++[x]) (i:Int)=x:=by
 unfold aI
 rw[Int.toNat_natCast,List.getD_eq_getElem?_getD,h,List.getElem?_append_right (Nat.le_refl _),Nat.sub_self]
 rfl
theorem aI_ext {α:Type} [Inhabited α] {l m:List α} (hl:l.length=m.length) (h:∀i:Nat,i < l.length→aI l (i:Int)=aI m (i:Int)):l=m:=by
 refine List.ext_getElem hl fun i h1 h2=>?_
 have:=h i h1
 unfold aI at this
 rw[Int.toNat_natCast,List.getD_eq_getElem?_getD,List.getD_eq_getElem?_getD,List.getElem?_eq_getElem h1,List.getElem?_eq_getElem h2] at this
 exact this
structure Prob (v:Venue) (L:List Party):Prop where
 may:MayV v
 n1:v.Seats.length≤9
 kl:v.Kills.length≤9
 pl:v.Poles.length≤9
 rad:InP v.Radius 0 24
 l4:L.length≤4
 ps:∀i:Nat,i < L.length→MayP (aI L (i:Int))∧(aI L (i:Int)).Size≤3
theorem Prob.all {v:Venue} {L:List Party} (h:Prob v L):AllMay L:=⟨by have:=h.l4;omega,fun i hi=>(h.ps i hi).1⟩
theorem Prob.inn {v:Venue} {L:List Party} (h:Prob v L) {P:List Pin} (hP:PinOK v L P):InOK v L P:=⟨h.may,hP,h.all⟩
theorem small_l0 (k:Nat) (l:List Int):∀(d n i:Nat) (w:List Party),i+d=4→d < n→w.length=i→(∀j:Nat,j < w.length→MayP (aI w (j:Int))∧(aI w (j:Int)).Size≤3)→∃o,law12_Small_l0 k l n w (i:Int)=some o∧o.length≤4∧∀j:Nat,j < o.length→MayP (aI o (j:Int))∧(aI o (j:Int)).Size≤3
 | d,0,i,w,_,h,_,_=>absurd h (by omega)
 | 0,n+1,i,w,hi,_,hw,hp=>by
  rw[law12_Small_l0]
  by_cases h:(i:Int) < (l.length:Int)
  ·rw[condD h,condN (by omega)]
   exact⟨w,rfl,by omega,hp⟩
  ·rw[condN h]
   exact⟨w,rfl,by omega,hp⟩
 | d+1,n+1,i,w,hi,hd,hw,hp=>by
  rw[law12_Small_l0]
  by_cases h:(i:Int) < (l.length:Int)
  ·obtain⟨u0,u1⟩:=um (aI l (i:Int)) 3 (by omega)
   rw[condD h,condD (by omega),bindS (idx_aI (by omega) h),wr_id (x:=(IntKind.u64.wrap (aI l (i:Int))).tmod 3) (by omega) (by omega),wr_id (x:=1+(IntKind.u64.wrap (aI l (i:Int))).tmod 3) (by omega) (by omega),wr_succ (by omega)]
   generalize (IntKind.u64.wrap (aI l (i:Int))).tmod 3=q at u0 u1
   generalize ((IntKind.u64.wrap ((IntKind.u64.wrap (aI l (i:Int))).tdiv 3)).tmod 4)=q2
   have hgo:∀p:Party,MayP p∧p.Size≤3→∃o,(gd (decide (w.length+([p]).length≤4294967296)) (law12_Small_l0 k l n (w++[p]) ((i+1:Nat):Int)))=some o∧o.length≤4∧∀j:Nat,j < o.length→MayP (aI o (j:Int))∧(aI o (j:Int)).Size≤3:=fun p hpp=>by
    rw[gdD (by simp only[List.length_singleton];omega)]
    refine small_l0 k l d n (i+1) (w++[p]) (by omega) (by omega) (by simp [hw]) fun j hj=>?_
    rw[List.length_append,List.length_singleton] at hj
    by_cases hjw:j < w.length
    ·rw[aI_lt hjw];exact hp j hjw
    ·rw[aI_last (by omega)];exact hpp
   by_cases h2:q2=0
   ·rw[condD h2,bindS rfl]
    by_cases h3:1 < 1+q
    ·rw[condD h3]
     exact hgo _ ⟨⟨by simp only;omega,by simp only;omega,by simp only;omega,by simp only;omega,by simp only;omega⟩,by simp only;omega⟩
    ·rw[condN h3]
     exact hgo _ ⟨⟨by simp only;omega,by simp only;omega,by simp only;omega,by simp only;omega,by simp only;omega⟩,by simp only;omega⟩
   ·rw[condN h2,bindS rfl,cond_false]
    exact hgo _ ⟨⟨by simp only;omega,by simp only;omega,by simp only;omega,by simp only;omega,by simp only;omega⟩,by simp only;omega⟩
  ·rw[condN h]
   exact⟨w,rfl,by omega,hp⟩
theorem law12_Small_eq {k:Nat} (l m:List Int) (hk:100≤k):∃v L,law12_Small k l m=some (v,L)∧Prob v L:=by
 obtain⟨v,e,hv⟩:=law3_Make_eq k l 9 (by omega) (by omega) (by omega)
 have e:law3_Make k l 9=some v:=e
 obtain⟨L,eL,hL1,hL2⟩:=small_l0 k m 4 k 0 [] (by omega) (by omega) rfl (fun j hj=>absurd hj (by simp))
 have eL:law12_Small_l0 k m k [] 0=some L:=eL
 have h6:∃b,(cond (decide (0 < (m.length:Int))) (Option.bind (idx m 0) fun y10=>some (!decide ((y10.tmod 3)=0))) (some false))=some b:=by
  by_cases h:0 < (m.length:Int)
  ·rw[condD h,bindS (idx_aI (by omega) h)];exact⟨_,rfl⟩
  ·rw[condN h];exact⟨_,rfl⟩
 obtain⟨b,eb⟩:=h6
 have h13:∃r,cond b (some (v.Radius.tmod 12)) (some v.Radius)=some r∧InP r 0 24:=by
  have hr:=hv.rad
  cases b
  ·exact⟨_,rfl,hr⟩
  ·refine⟨_,rfl,Int.tmod_nonneg _ hr.1,?_⟩
   have:=Int.tmod_lt_of_pos v.Radius (b:=12) (by omega)
   omega
 obtain⟨r,er,hr⟩:=h13
 unfold law12_Small
 rw[bindS e,bindS eb,bindS er,bindS eL]
 have hM:=hv.may
 exact⟨_,_,rfl,⟨hM.seats,hM.n0,hM.n1,hM.gap,by show InP r 0 1048576;omega,hM.kills,hM.k1,hM.poles,hM.p1⟩,hv.n1,hv.kl,hv.pl,hr,hL1,hL2⟩
theorem PlanP.ok {k:Nat} {v:Venue} {L:List Party} {P:List Pin} {r:List Int} (hv:Small k v) (h:PlanP v L P r):∀i:Nat,i < r.length→okI (aI r (i:Int)):=fun i hi=>by
 by_cases h1:aI r (i:Int) = -1
 ·rw[h1];exact⟨by omega,by omega⟩
 ·obtain⟨_,h1,h2,h3⟩:=plB_in hv ((h.at_ i hi).pl h1)
  have:=hv.hs
  have:=hv.b
  exact⟨by omega,by omega⟩
/- all plans -/
theorem allV_mem {k:Nat} {v:Venue} (hv:Small k v) {p:Party} {s:Int} : s ∈ allV v p ↔ plB v p s=true:=by
 unfold allV plB
 cases mayB v
 ·simp
 ·rw[cond_true,Bool.true_and]
  unfold allL
  rw[List.mem_map]
  constructor
  ·rintro ⟨a,h,rfl⟩
   exact(List.mem_filter.1 h).2
  ·intro h
   have hN:=hv.hs
   have hb:=hv.b
   obtain⟨h1,h2,h3,_⟩:=placeB_pos (by omega) h
   refine⟨s.toNat,List.mem_filter.2 ⟨List.mem_range.2 (by omega),?_⟩,by omega⟩
   rw[show((s.toNat:Nat):Int)=s by omega]
   exact h
theorem filter_yes {α:Type} (l:List α):l.filter (fun _=>true)=l:=List.filter_eq_self.2 (fun _ _=>rfl)
section
variable {k:Nat} {v:Venue} {L:List Party}
/- persons -/
def seatN (L:List Party) (r:List Int):Nat→Int
 | 0=>0
 | n+1=>seatN L r n+if 0≤aI r (n:Int) then (aI L (n:Int)).Size else 0
theorem seatN_bd (hA:AllMay L) {r:List Int} : ∀ {n:Nat},n≤L.length→0≤seatN L r n∧seatN L r n≤8 * n
 | 0,_=>by rw[seatN];omega
 | n+1,h=>by
  have:=seatN_bd hA (r:=r) (n:=n) (by omega)
  have:=hA.2 n (by omega)
  rw[seatN]
  split <;> omega
theorem plan_Seated_l0_eq (hA:AllMay L) {r:List Int} (hr:r.length≤L.length):∀(d n i:Nat),i+d=r.length→d < n→plan_Seated_l0 k L r n (seatN L r i) (i:Int)=some (seatN L r r.length)
 | d,0,i,_,h=>absurd h (by omega)
 | 0,n+1,i,hi,_=>by
  rw[plan_Seated_l0,condN (by omega),show i=r.length by omega]
 | d+1,n+1,i,hi,hd=>by
  have h1:=hA.1
  have h2:=hA.2 i (by omega)
  have h3:=seatN_bd hA (r:=r) (n:=i) (by omega)
  have ih:=plan_Seated_l0_eq hA hr d n (i+1) (by omega) (by omega)
  rw[plan_Seated_l0,condD (by omega),bindS (idx_aI (by omega) (by omega)),wr_succ (by omega)]
  rw[seatN] at ih
  by_cases h:0≤aI r (i:Int)
  ·rw[if_pos h] at ih
   rw[condD h,bindS (idx_aI (by omega) (by omega)),wr_id (by omega) (by omega),ih]
  ·rw[if_neg h,Int.add_zero] at ih
   rw[condN h,ih]
theorem plan_Seated_eq (hA:AllMay L) (hk:1000 < k) (hb:k≤4294967290) {r:List Int} (hr:r.length=L.length):plan_Seated k L r=some (seatN L r L.length):=by
 have h1:=hA.1
 unfold plan_Seated
 rw[condNT (by omega),bindS (party_All_eq (by omega) hb),dB_T hA,bindS rfl,cNT]
 have e:=plan_Seated_l0_eq (k:=k) hA (r:=r) (by omega) r.length k 0 (by omega) (by omega)
 have e:plan_Seated_l0 k L r k 0 0=_:=e
 rw[bindS e,hr]
end
end Go.Px

set_option linter.unusedVariables false
set_option linter.unusedSimpArgs false
namespace Go.Px
open Go Go.Sh
section
variable {v:Venue} {L:List Party}
theorem PlanP.pins {P:List Pin} {r:List Int} (h:PlanP v L [] r) (hP:PinOK v L P) (hh:∀i:Nat,i < P.length→aI r (aI P (i:Int)).Party=(aI P (i:Int)).First):PlanP v L P r :=
 ⟨⟨h.inn.1,hP,h.inn.2.2⟩,h.len,fun i hi=>⟨fun f hf=>by
  obtain⟨j,h1,h2,h3⟩:=pinAt_some hf
  have:=hh j h1
  rw[h2] at this
  rw[this,h3],(h.at_ i hi).pl,(h.at_ i hi).ap⟩⟩
theorem PlanP.held {P:List Pin} {r:List Int} (h:PlanP v L P r) {i:Nat} (hi:i < P.length):aI r (aI P (i:Int)).Party=(aI P (i:Int)).First:=by
 have hG:=h.inn.2.1 i hi
 have h1:=hG.lo
 have h2:=hG.hi
 have:=(h.at_ (aI P (i:Int)).Party.toNat (by rw[h.len];omega)).pin (aI P (i:Int)).First
 rw[show(((aI P (i:Int)).Party.toNat:Nat):Int)=(aI P (i:Int)).Party by omega] at this
 exact this (pinAt_get h.inn.2.1.rise hi)
def pinPlan (L:List Party) (P:List Pin):List Int:=(List.range L.length).map (fun i:Nat=>(pinAt P (i:Int)).getD (-1))
end
end Go.Px

set_option linter.unusedVariables false
set_option linter.unusedSimpArgs false
namespace Go.Px
open Go Go.Sh
structure StateP (v:Venue) (L:List Party) (P:List Pin) (r:List Int):Prop where
 inn:InOK v L P
 len:r.length≤L.length
 at_:∀i,i < r.length→OkAt v L P r i
structure FreeP (v:Venue) (L:List Party) (P:List Pin) (r:List Int) (i:Int) (s:Int):Prop where
 plan:∀j:Nat,j < r.length→¬aI r (j:Int) = -1→aptB v (aI L i) s (aI L (j:Int)) (aI r (j:Int))=true
 pins:∀j:Nat,j < P.length→¬(aI P (j:Int)).Party=i→aptB v (aI L i) s (aI L (aI P (j:Int)).Party) (aI P (j:Int)).First=true
noncomputable def openL (v:Venue) (L:List Party) (P:List Pin) (r:List Int) (i:Int):List Int:=(allV v (aI L i)).filter fun s=>dB (FreeP v L P r i s∧∀f,pinAt P i=some f→s=f)
section
variable {k:Nat} {v:Venue} {L:List Party} {P:List Pin} {r:List Int}
/- the strike-out -/
end
end Go.Px

set_option linter.unusedVariables false
set_option linter.unusedSimpArgs false
namespace Go.Px
open Go Go.Sh
theorem aI_take {α:Type} [Inhabited α] {l:List α} {n:Nat} {x:Int} (h0:0≤x) (h:x < (n:Int)):aI (l.take n) x=aI l x:=by
 unfold aI
 rw[List.getD_eq_getElem?_getD,List.getD_eq_getElem?_getD,List.getElem?_take_of_lt (by omega)]
section
variable {k:Nat} {v:Venue} {L:List Party} {P:List Pin} {r:List Int}
theorem openL_mem (hv:Small k v) {i s:Int} : s ∈ openL v L P r i ↔ plB v (aI L i) s=true∧FreeP v L P r i s∧∀f,pinAt P i=some f→s=f:=by
 unfold openL
 rw[List.mem_filter,allV_mem hv,dB_iff]
open Classical in
noncomputable def mostN (v:Venue) (L:List Party) (P:List Pin) (r:List Int):Nat→Int
 | 0=>0
 | n+1=>mostN v L P r n+if (n < r.length∧0≤aI r (n:Int))∨(r.length≤n∧0 < (openL v L P r (n:Int)).length) then (aI L (n:Int)).Size else 0
end
end Go.Px

set_option linter.unusedVariables false
set_option linter.unusedSimpArgs false
namespace Go.Px
open Go Go.Sh
end Go.Px

set_option linter.unusedVariables false
set_option linter.unusedSimpArgs false
namespace Go.Px
open Go Go.Sh
theorem sameInts_eq (k:Nat) (a b:List Int) (ha:a.length < k) (hb:a.length≤4294967290):ref6_SameInts k a b=some (dB (a=b)):=by
 unfold ref6_SameInts
 by_cases hl:(a.length:Int)=(b.length:Int)
 ·rw[condNT hl]
  have e:=scanB (F:=fun n i=>ref6_SameInts_l0 k a b n (i:Int)) (len:=a.length) (k:=k) (fun i=>aI a (i:Int)=aI b (i:Int)) (t:=()) (r:=false)
   (fun n i hi _ hg=>by
    rw[ref6_SameInts_l0,condD (by omega),bindS (idx_aI (by omega) (by omega)),bindS (idx_aI (by omega) (by omega)),condNT hg,wr_succ (by omega)])
   (fun n i hi _ hg=>by
    rw[ref6_SameInts_l0,condD (by omega),bindS (idx_aI (by omega) (by omega)),bindS (idx_aI (by omega) (by omega)),condNF hg])
   (fun n _=>by
    rw[ref6_SameInts_l0,condN (by omega)]) ha
  have e:ref6_SameInts_l0 k a b k 0=_:=e
  rw[bindS e]
  rcases Classical.em (a=b) with h | h
  ·rw[dB_T h,dB_T (fun j _=>by rw[h]),if_pos rfl,elim_go]
  ·rw[dB_F h,dB_F (fun x=>h (aI_ext (by omega) x)),if_neg (by simp),elim_rt]
 ·rw[condNF hl,dB_F (fun x=>hl (by rw[x]))]
section
variable {k:Nat} {v:Venue} {L:List Party} {P:List Pin} {r:List Int}
theorem PlanP.open (hv:Small k v) (h:PlanP v L P r) {n i:Nat} (hn:n≤i) (hi:i < L.length) (h1:¬aI r (i:Int) = -1):aI r (i:Int) ∈ openL v L P (r.take n) (i:Int):=by
 have hl:=h.len
 have hG:=h.at_ i (by omega)
 refine(openL_mem hv).2 ⟨hG.pl h1,⟨fun j hj hnj=>?_,fun j hj hne=>?_⟩,hG.pin⟩
 ·rw[List.length_take] at hj
  rw[aI_take (by omega) (by omega)] at hnj ⊢
  exact hG.ap h1 j (by omega) hnj
 ·have hPG:=h.inn.2.1 j hj
  have hh:=h.held hj
  have h0:=hPG.lo
  have h2:=hPG.hi
  have h3:=(plB_in hv hPG.pl).2.2.1
  obtain⟨x,hx⟩:=Int.eq_ofNat_of_zero_le h0
  have hx:(aI P (j:Int)).Party=(x:Int):=hx
  rw[hx] at hh hne h2 ⊢
  rw[← hh] at h3 ⊢
  rcases Nat.lt_or_ge x i with q | q
  ·exact hG.ap h1 x q (by omega)
  ·rw[aptB_symm]
   exact(h.at_ x (by omega)).ap (by omega) i (by omega) h1
structure BCtx (v:Venue) (L:List Party) (P:List Pin):Prop where
 pr:Prob v L
 l4:P.length≤4
 ok:PinOK v L P
theorem StateP.ok (hv:Small k v) (h:StateP v L P r):∀i:Nat,i < r.length→okI (aI r (i:Int)):=fun i hi=>by
 by_cases h1:aI r (i:Int) = -1
 ·rw[h1];exact⟨by omega,by omega⟩
 ·obtain⟨_,h1,h2,h3⟩:=plB_in hv ((h.at_ i hi).pl h1)
  have:=hv.hs
  have:=hv.b
  exact⟨by omega,by omega⟩
end
end Go.Px

set_option linter.unusedVariables false
set_option linter.unusedSimpArgs false
namespace Go.Px
open Go Go.Sh
theorem map_range_at {α:Type} [Inhabited α] {f:Nat → α} {n i:Nat} (h:i < n):aI ((List.range n).map f) (i:Int)=f i:=by
 unfold aI
 rw[Int.toNat_natCast,List.getD_eq_getElem?_getD,List.getElem?_map,List.getElem?_range h]
 rfl
section
variable {k:Nat} {v:Venue} {L:List Party} {P:List Pin} {r:List Int}
end
end Go.Px

set_option linter.unusedVariables false
set_option linter.unusedSimpArgs false
namespace Go.Px
open Go Go.Sh
section
variable {k:Nat} {v:Venue} {L:List Party} {P:List Pin} {r:List Int}
theorem StateP.take (h:StateP v L P r) (n:Nat):StateP v L P (r.take n):=by
 have hl:=h.len
 refine⟨h.inn,by rw[List.length_take];omega,fun i hi=>?_⟩
 rw[List.length_take] at hi
 have hG:=h.at_ i (by omega)
 refine⟨fun f hf=>by rw[aI_take (by omega) (by omega)];exact hG.pin f hf,fun hn=>?_,fun hn j hj hnj=>?_⟩
 ·rw[aI_take (by omega) (by omega)] at hn ⊢
  exact hG.pl hn
 ·rw[aI_take (by omega) (by omega)] at hn hnj ⊢
  rw[aI_take (by omega) (by omega)]
  exact hG.ap hn j hj hnj
end
end Go.Px

set_option linter.unusedVariables false
set_option linter.unusedSimpArgs false
namespace Go.Px
open Go Go.Sh
structure HS where
 plan:List Int
 most:Int
 nodes:Int
 tree:List Bool
noncomputable def rowRun (f:Int→HS→HS×Bool):List Int→HS→HS×Bool
 | [],s=>(s,true)
 | x::xs,s=>if (f x s).2=true then rowRun f xs (f x s).1 else f x s
noncomputable def rowL (v:Venue) (L:List Party) (P:List Pin) (r:List Int):List Int:=openL v L P r (r.length:Int)++(if (pinAt P (r.length:Int)).isSome=true then [] else [-1])
noncomputable def leafS (v:Venue) (L:List Party) (P:List Pin) (r:List Int) (s:HS):HS:=if s.most < mostN v L P r L.length then ⟨r,mostN v L P r L.length,s.nodes+1,s.tree⟩ else ⟨s.plan,s.most,s.nodes+1,s.tree⟩
noncomputable def hunt (v:Venue) (L:List Party) (P:List Pin) (fuel:Int):Nat→List Int→HS→HS×Bool
 | 0,r,s=>if fuel≤s.nodes then (s,false) else (leafS v L P r s,true)
 | d+1,r,s=>if fuel≤s.nodes then (s,false) else if s.most < mostN v L P r L.length then rowRun (fun x s=>hunt v L P fuel d (r++[x]) s) (rowL v L P r) ⟨s.plan,s.most,s.nodes+1,s.tree++[true]⟩ else (⟨s.plan,s.most,s.nodes+1,s.tree++[false]⟩,true)
section
variable {k:Nat} {v:Venue} {L:List Party} {P:List Pin} {r:List Int} {fuel:Int}
structure HInv (fuel:Int) (s:HS):Prop where
 n0:0≤s.nodes
 t:(s.tree.length:Int)≤s.nodes
end
end Go.Px

set_option linter.unusedVariables false
set_option linter.unusedSimpArgs false
namespace Go.Px
open Go Go.Sh
section
variable {k:Nat} {v:Venue} {L:List Party} {P:List Pin} {r:List Int} {fuel:Int}
noncomputable def s0 (L:List Party) (P:List Pin):HS:=⟨pinPlan L P,seatN L (pinPlan L P) L.length,0,[]⟩
noncomputable def huntR (v:Venue) (L:List Party) (P:List Pin) (fuel:Int):HS×Bool:=hunt v L P fuel L.length [] (s0 L P)
/- what holds of the walk -/
structure Less (f1:Int) (a b:HS×Bool) (s:HS):Prop where
 same:a.2=true→b=a
 nodes:a.2=false→a.1.nodes=max f1 s.nodes
 most:a.1.most≤b.1.most
 more:a.2=false→b.2=true→f1 < b.1.nodes
 le:a.1.nodes≤b.1.nodes
end
end Go.Px

set_option linter.unusedVariables false
set_option linter.unusedSimpArgs false
namespace Go.Px
open Go Go.Sh
theorem law15_told_eq:law15_told 20000=some true:=by decide +kernel
section
variable {k:Nat} {v:Venue} {L:List Party} {P:List Pin} {r:List Int} {fuel:Int}
structure SCtx (v:Venue) (L:List Party) (P:List Pin) (N:Int):Prop where
 c:BCtx v L P
 ok:(huntR v L P 1073741824).2=true
 n:(huntR v L P 1073741824).1.nodes=N
 n1:1≤N
 n2:N≤11111
end
end Go.Px

set_option linter.unusedVariables false
set_option linter.unusedSimpArgs false
namespace Go.Px
open Go Go.Sh
section
variable {k:Nat} {v:Venue} {L:List Party} {P:List Pin} {r:List Int} {fuel:Int}
def lexB (a b:List Int):Prop:=∃w:Nat,w < a.length∧(∀j:Nat,j < w→aI a (j:Int)=aI b (j:Int))∧¬aI a (w:Int) = -1∧(aI b (w:Int) = -1∨aI a (w:Int) < aI b (w:Int))
end
end Go.Px

set_option linter.unusedVariables false
set_option linter.unusedSimpArgs false
namespace Go.Px
open Go Go.Sh
section
variable {k:Nat} {v:Venue} {L:List Party} {P:List Pin} {r:List Int} {fuel:Int}
theorem search_seq_eq {n:Nat} (hk:n < k) (hb:k≤4294967290):search_seq k (n:Int)=some ((List.range n).map (fun j:Nat=>(j:Int))):=by
 unfold search_seq
 have e:=gather0 (f:=fun m w i=>search_seq_l0 k (n:Int) m w i) (len:=n) (c:=0) (fun _=>true) (fun j:Nat=>(j:Int))
  (fun m i w hi hw=>by
   show search_seq_l0 k (n:Int) (m+1) w (i:Int)=search_seq_l0 k (n:Int) m _ _
   rw[search_seq_l0,condD (by omega),gdD (by simp only[List.length_singleton];omega),wr_succ (by omega),if_pos rfl])
  (fun m w=>by show search_seq_l0 k (n:Int) (m+1) w _=_;rw[search_seq_l0,condN (by omega)])
  (k:=k) hk [] (by simp)
 have e:search_seq_l0 k (n:Int) k [] 0=_:=e
 rw[bindS e,filter_yes,List.nil_append]
theorem better_eq (hA:AllMay L) (hk:1000 < k) (hb:k≤4294967290) {a b:List Int} (ha:a.length=L.length) (hbl:b.length=L.length):search_Better k L a b=cond (!decide (seatN L a L.length=seatN L b L.length)) (some (decide (seatN L b L.length < seatN L a L.length))) (cond (decide (fstF (fun i:Nat=>aI a (i:Int)=aI b (i:Int)) L.length 0 < 0)) (some false) (Option.bind (idx a (fstF (fun i:Nat=>aI a (i:Int)=aI b (i:Int)) L.length 0)) fun y22=>cond (decide (y22=(-1))) (Option.bind (idx b (fstF (fun i:Nat=>aI a (i:Int)=aI b (i:Int)) L.length 0)) fun y25=>some (decide (y25=(-1)))) (Option.bind (idx b (fstF (fun i:Nat=>aI a (i:Int)=aI b (i:Int)) L.length 0)) fun y27=>cond (decide (y27=(-1))) (Option.bind (idx b (fstF (fun i:Nat=>aI a (i:Int)=aI b (i:Int)) L.length 0)) fun y30=>some (decide (y30=(-1)))) (Option.bind (idx a (fstF (fun i:Nat=>aI a (i:Int)=aI b (i:Int)) L.length 0)) fun y36=>Option.bind (idx b (fstF (fun i:Nat=>aI a (i:Int)=aI b (i:Int)) L.length 0)) fun y38=>some (decide (y36 < y38)))))):=by
 have h1:=hA.1
 have hsl:((List.range L.length).map (fun j:Nat=>(j:Int))).length=L.length:=by simp
 have hsa:∀i:Nat,i < L.length→aI ((List.range L.length).map (fun j:Nat=>(j:Int))) (i:Int)=(i:Int):=fun i hi=>map_range_at hi
 have eF:slices_IndexFunc_int k ((List.range L.length).map (fun j:Nat=>(j:Int))) (fun p19=>search_Better_1 k p19 a b)=some (fstF (fun i:Nat=>aI a (i:Int)=aI b (i:Int)) L.length 0):=by
  unfold slices_IndexFunc_int
  have e:=scanF0 (F:=fun n i=>slices_IndexFunc_int_l0 k ((List.range L.length).map (fun j:Nat=>(j:Int))) (fun p19=>search_Better_1 k p19 a b) n (i:Int)) (len:=L.length) (k:=k) (fun i:Nat=>aI a (i:Int)=aI b (i:Int)) (t:=()) (fun i=>(i:Int))
   (fun n i hi _ hg=>by
    have e1:search_Better_1 k (i:Int) a b=some false:=by
     unfold search_Better_1
     rw[bindS (idx_aI (by omega) (by omega)),bindS (idx_aI (by omega) (by omega)),decide_eq_true hg]
     rfl
    rw[slices_IndexFunc_int_l0,condD (by omega),bindS (idx_aI (by omega) (by omega)),hsa i hi,bindS e1,cond_false,wr_succ (by omega)])
   (fun n i hi _ hg=>by
    have e1:search_Better_1 k (i:Int) a b=some true:=by
     unfold search_Better_1
     rw[bindS (idx_aI (by omega) (by omega)),bindS (idx_aI (by omega) (by omega)),decide_eq_false hg]
     rfl
    rw[slices_IndexFunc_int_l0,condD (by omega),bindS (idx_aI (by omega) (by omega)),hsa i hi,bindS e1,cond_true])
   (fun n _=>by
    rw[slices_IndexFunc_int_l0,condN (by omega)]) (by omega)
  have e:slices_IndexFunc_int_l0 k ((List.range L.length).map (fun j:Nat=>(j:Int))) (fun p19=>search_Better_1 k p19 a b) k 0=_:=e
  rw[bindS e,elim_fst]
 unfold search_Better
 rw[condNT (show(a.length:Int)=(L.length:Int) by omega),bindS rfl,condNT (show(b.length:Int)=(L.length:Int) by omega),bindS (plan_Seated_eq hA hk hb ha),bindS (plan_Seated_eq hA hk hb hbl),bindS (search_seq_eq (by omega) hb),bindS eF]
theorem lexB_fst {a b:List Int} (h:lexB a b) (hl:a.length=L.length):∃w:Nat,w < L.length∧fstF (fun i:Nat=>aI a (i:Int)=aI b (i:Int)) L.length 0=(w:Int)∧fstF (fun i:Nat=>aI b (i:Int)=aI a (i:Int)) L.length 0=(w:Int)∧¬aI a (w:Int) = -1∧(aI b (w:Int) = -1∨aI a (w:Int) < aI b (w:Int)):=by
 obtain⟨w,h1,h2,h3,h4⟩:=h
 have hne:¬aI a (w:Int)=aI b (w:Int):=fun e=>by
  rcases h4 with h4 | h4
  ·rw[← e] at h4;exact h3 h4
  ·omega
 exact⟨w,by omega,fstF_at (by omega) (by omega) (fun j _ hj=>h2 j hj) hne,fstF_at (by omega) (by omega) (fun j _ hj=>(h2 j hj).symm) (fun e=>hne e.symm),h3,h4⟩
theorem better_T (hA:AllMay L) (hk:1000 < k) (hb:k≤4294967290) {a b:List Int} (ha:a.length=L.length) (hbl:b.length=L.length) (h:seatN L b L.length < seatN L a L.length∨(seatN L b L.length=seatN L a L.length∧lexB a b)):search_Better k L a b=some true:=by
 rw[better_eq hA hk hb ha hbl]
 rcases h with h | ⟨h,hx⟩
 ·rw[condNF (by omega),decide_eq_true h]
 ·obtain⟨w,w1,w2,w3,w4,w5⟩:=lexB_fst hx ha
  rw[condNT h.symm,w2,condN (by omega),bindS (idx_aI (by omega) (by omega)),condN w4,bindS (idx_aI (by omega) (by omega))]
  by_cases h5:aI b (w:Int) = -1
  ·rw[condD h5,bindS (idx_aI (by omega) (by omega)),decide_eq_true h5]
  ·rw[condN h5,bindS (idx_aI (by omega) (by omega)),bindS (idx_aI (by omega) (by omega)),decide_eq_true (by omega)]
theorem better_F (hA:AllMay L) (hk:1000 < k) (hb:k≤4294967290) {a b:List Int} (ha:a.length=L.length) (hbl:b.length=L.length) (h:seatN L a L.length < seatN L b L.length∨(seatN L a L.length=seatN L b L.length∧lexB b a)):search_Better k L a b=some false:=by
 rw[better_eq hA hk hb ha hbl]
 rcases h with h | ⟨h,hx⟩
 ·rw[condNF (by omega),decide_eq_false (by omega)]
 ·obtain⟨w,w1,w2,w3,w4,w5⟩:=lexB_fst hx hbl
  rw[condNT h,w3,condN (by omega),bindS (idx_aI (by omega) (by omega))]
  by_cases h5:aI a (w:Int) = -1
  ·rw[condD h5,bindS (idx_aI (by omega) (by omega)),decide_eq_false w4]
  ·rw[condN h5,bindS (idx_aI (by omega) (by omega)),condN w4,bindS (idx_aI (by omega) (by omega)),bindS (idx_aI (by omega) (by omega)),decide_eq_false (by omega)]
/- enough -/
end
end Go.Px

set_option linter.unusedVariables false
set_option linter.unusedSimpArgs false
namespace Go.Px
open Go Go.Sh
section
variable {k:Nat} {L:List Party} {a b c:List Int}
def Beats (L:List Party) (a b:List Int):Prop:=seatN L b L.length < seatN L a L.length∨(seatN L b L.length=seatN L a L.length∧lexB a b)
theorem lexB_trans (hab:a.length=b.length) (h1:lexB a b) (h2:lexB b c):lexB a c:=by
 obtain⟨w,w1,w2,w3,w4⟩:=h1
 obtain⟨x,x1,x2,x3,x4⟩:=h2
 rcases Nat.lt_trichotomy w x with h | h | h
 ·refine⟨w,w1,fun j hj=>(w2 j hj).trans (x2 j (by omega)),w3,?_⟩
  rw[← x2 w h]
  exact w4
 ·subst h
  refine⟨w,w1,fun j hj=>(w2 j hj).trans (x2 j hj),w3,?_⟩
  rcases w4 with h | h
  ·exact absurd h x3
  ·rcases x4 with h' | h'
   ·exact .inl h'
   ·exact .inr (by omega)
 ·have e:=w2 x h
  refine⟨x,by omega,fun j hj=>(w2 j (by omega)).trans (x2 j hj),by rw[e];exact x3,?_⟩
  rw[e]
  exact x4
theorem lexB_irr:¬lexB a a:=fun⟨w,_,_,h3,h4⟩=>by
 rcases h4 with h | h
 ·exact h3 h
 ·omega
theorem lexB_tri (hab:a.length=b.length) (hne:¬a=b):lexB a b∨lexB b a:=by
 have h:∃j:Nat,j < a.length∧¬aI a (j:Int)=aI b (j:Int):=Classical.byContradiction fun h=>hne (aI_ext hab fun j hj=>Classical.byContradiction fun h2=>h ⟨j,hj,h2⟩)
 have key:∀n:Nat,(∃j:Nat,j < n∧j < a.length∧¬aI a (j:Int)=aI b (j:Int))→∃j:Nat,j < a.length∧¬aI a (j:Int)=aI b (j:Int)∧∀i:Nat,i < j→aI a (i:Int)=aI b (i:Int):=by
  intro n
  induction n with
  | zero=>rintro ⟨j,h,_⟩;omega
  | succ n ih =>
   rintro ⟨j,h1,h2,h3⟩
   by_cases hq:∃j:Nat,j < n∧j < a.length∧¬aI a (j:Int)=aI b (j:Int)
   ·exact ih hq
   ·refine⟨j,h2,h3,fun i hi=>Classical.byContradiction fun h4=>hq ⟨i,by omega,by omega,h4⟩⟩
 obtain⟨j,hj,hjn⟩:=h
 obtain⟨w,w1,w2,w3⟩:=key a.length ⟨j,hj,hj,hjn⟩
 by_cases h1:aI a (w:Int) = -1
 ·exact .inr ⟨w,by omega,fun j hj=>(w3 j hj).symm,fun h=>w2 (by rw[h1,h]),.inl h1⟩
 ·by_cases h2:aI b (w:Int) = -1
  ·exact .inl ⟨w,w1,w3,h1,.inl h2⟩
  ·by_cases h3:aI a (w:Int) < aI b (w:Int)
   ·exact .inl ⟨w,w1,w3,h1,.inr h3⟩
   ·exact .inr ⟨w,by omega,fun j hj=>(w3 j hj).symm,h2,.inr (by omega)⟩
theorem Beats.trans (hab:a.length=b.length) (h1:Beats L a b) (h2:Beats L b c):Beats L a c:=by
 rcases h1 with h1 | ⟨h1,h1'⟩
 ·rcases h2 with h2 | ⟨h2,_⟩
  ·exact .inl (by omega)
  ·exact .inl (by omega)
 ·rcases h2 with h2 | ⟨h2,h2'⟩
  ·exact .inl (by omega)
  ·exact .inr ⟨by omega,lexB_trans hab h1' h2'⟩
theorem Beats.irr:¬Beats L a a:=fun h=>by
 rcases h with h | ⟨_,h⟩
 ·omega
 ·exact lexB_irr h
theorem Beats.tri (hab:a.length=b.length) (hne:¬a=b):Beats L a b∨Beats L b a:=by
 rcases Int.lt_trichotomy (seatN L a L.length) (seatN L b L.length) with h | h | h
 ·exact .inr (.inl h)
 ·rcases lexB_tri hab hne with h' | h'
  ·exact .inl (.inr ⟨h.symm,h'⟩)
  ·exact .inr (.inr ⟨h,h'⟩)
 ·exact .inl (.inl h)
theorem better_all (hA:AllMay L) (hk:1000 < k) (hb:k≤4294967290) (ha:a.length=L.length) (hbl:b.length=L.length):search_Better k L a b=some (dB (Beats L a b)):=by
 by_cases he:a=b
 ·subst he
  rw[dB_F Beats.irr,better_eq hA hk hb ha ha,condNT rfl]
  have e:fstF (fun i:Nat=>aI a (i:Int)=aI a (i:Int)) L.length 0 = -1:=fstF_all.2 fun j _=>rfl
  rw[e,condD (by omega)]
 ·rcases Beats.tri (L:=L) (by omega) he with h | h
  ·rw[dB_T h]
   exact better_T hA hk hb ha hbl h
  ·rw[dB_F (fun h'=>Beats.irr (Beats.trans (by omega) h h'))]
   refine better_F hA hk hb ha hbl ?_
   rcases h with h | ⟨h,h'⟩
   ·exact .inl h
   ·exact .inr ⟨h,h'⟩
theorem order_l1 {A:List (List Int)} {q:Int} {z:List Int} (hz:idx A q=some z) (hL:L.length≤1000):∀(d n i:Nat) (w:List Int),i+d=L.length→d < n→w.length=i→∃c,law15_SearchOrder_l1 k A L q n w (i:Int)=some c∧c.length=L.length
 | d,0,i,w,_,h,_=>absurd h (by omega)
 | 0,n+1,i,w,hi,_,hw=>by
  rw[law15_SearchOrder_l1,condN (by omega)]
  exact⟨w,rfl,by omega⟩
 | d+1,n+1,i,w,hi,hd,hw=>by
  have he:∃e,(cond (decide ((i:Int) < (z.length:Int))) (Option.bind (idx z (i:Int)) fun y=>some (wr ((wr ((IntKind.u64.wrap y).tmod 6))-1))) (some (-1)))=some e:=by
   by_cases h:(i:Int) < (z.length:Int)
   ·rw[condD h,bindS (idx_aI (by omega) h)];exact⟨_,rfl⟩
   ·rw[condN h];exact⟨_,rfl⟩
  obtain⟨e,he⟩:=he
  rw[law15_SearchOrder_l1,condD (by omega),bindS hz,bindS he,gdD (by simp only[List.length_singleton];omega),wr_succ (by omega)]
  exact order_l1 hz hL d n (i+1) (w++[e]) (by omega) (by omega) (by rw[List.length_append,List.length_singleton,hw])
theorem order_l0 {A:List (List Int)} (hA:A.length=3) (hL:L.length≤1000) (hk:1000 < k):∀(d n i:Nat) (rows:List (List Int)),i+d=3→d < n→rows.length=i→(∀r,r ∈ rows→r.length=L.length)→∃o,law15_SearchOrder_l0 k A L n rows (i:Int)=some o∧o.length=3∧∀r,r ∈ o→r.length=L.length
 | d,0,i,rows,_,h,_,_=>absurd h (by omega)
 | 0,n+1,i,rows,hi,_,hw,hr=>by
  rw[law15_SearchOrder_l0,condN (by omega)]
  exact⟨rows,rfl,by omega,hr⟩
 | d+1,n+1,i,rows,hi,hd,hw,hr=>by
  obtain⟨c,e,hc⟩:=order_l1 (k:=k) (idx_aI (l:=A) (x:=(i:Int)) (by omega) (by omega)) hL L.length k 0 [] (by omega) (by omega) rfl
  have e:law15_SearchOrder_l1 k A L (i:Int) k [] 0=some c:=e
  rw[law15_SearchOrder_l0,condD (by omega),bindS e,wr_succ (by omega)]
  refine order_l0 hA hL hk d n (i+1) (rows++[c]) (by omega) (by omega) (by rw[List.length_append,List.length_singleton,hw]) fun r h=>?_
  rcases List.mem_append.1 h with h | h
  ·exact hr r h
  ·rw[List.mem_singleton] at h
   rw[h,hc]
theorem SearchOrder_true (a0:List Int) (h0:okLI a0) (a1:List Int) (h1:okLI a1) (a2:List Int) (h2:okLI a2) (a3:List Int) (h3:okLI a3):∃k,law15_SearchOrder k a0 a1 a2 a3=some true:=by
 refine⟨20000,?_⟩
 obtain⟨v,L,e,hp⟩:=law12_Small_eq (k:=20000) [] a0 (by omega)
 have h4:=hp.l4
 have hA:=hp.all
 obtain⟨o,eo,ho,hr⟩:=order_l0 (k:=20000) (L:=L) (A:=[a1,a2,a3]) rfl (by omega) (by omega) 3 20000 0 [] (by omega) (by omega) rfl (fun r h=>by cases h)
 have eo:law15_SearchOrder_l0 20000 [a1,a2,a3] L 20000 [] 0=some o:=eo
 unfold law15_SearchOrder
 rw[bindS e]
 dsimp only
 rw[bindS eo]
 match o,ho,hr with
 | [x,y,z],_,hr =>
  have hx:=hr x (by simp)
  have hy:=hr y (by simp)
  have hz:=hr z (by simp)
  have i0:idx [x,y,z] (0:Int)=some x:=rfl
  have i1:idx [x,y,z] (1:Int)=some y:=rfl
  have i2:idx [x,y,z] (2:Int)=some z:=rfl
  have bt:∀ {a b:List Int},a.length=L.length→b.length=L.length→search_Better 20000 L a b=some (dB (Beats L a b)):=fun ha hb=>better_all hA (by omega) (by omega) ha hb
  rw[gdD (by omega),bindS i0,gdD (by omega),bindS i1,bindS (bt hx hy),gdD (by omega),bindS i1,gdD (by omega),bindS i2,bindS (bt hy hz),gdD (by omega),bindS i0,gdD (by omega),bindS i2,bindS (bt hx hz),gdD (by omega),bindS i0,gdD (by omega),bindS i1,bindS (sameInts_eq 20000 x y (by omega) (by omega)),bindS law15_told_eq,cond_true,gdD (by omega),bindS i0,gdD (by omega),bindS i0,bindS (bt hx hx),dB_F Beats.irr,cNF]
  rcases Classical.em (Beats L x y) with hxy | hxy
  ·have hne:¬x=y:=fun h=>by rw[h] at hxy;exact Beats.irr hxy
   rw[dB_T hxy,cond_true,dB_F hne,Bool.not_false,beq_self_eq_true,cond_true,gdD (by omega),bindS i1,gdD (by omega),bindS i0,bindS (bt hy hx),dB_F (fun h=>Beats.irr (Beats.trans (by omega) hxy h)),cNF,cNT]
   rcases Classical.em (Beats L y z) with hyz | hyz
   ·rw[dB_T hyz,cNT,dB_T (Beats.trans (by omega) hxy hyz)]
   ·rw[dB_F hyz,cNF]
  ·rw[dB_F hxy,cond_false,gdD (by omega),bindS i1,gdD (by omega),bindS i0,bindS (bt hy hx)]
   have he:(dB (Beats L y x) == !dB (x=y))=true:=by
    by_cases hs:x=y
    ·rw[dB_T hs,dB_F (fun h=>by rw[hs] at h;exact Beats.irr h)]
     rfl
    ·rcases Beats.tri (L:=L) (a:=x) (b:=y) (by omega) hs with h | h
     ·exact absurd h hxy
     ·rw[dB_T h,dB_F hs]
      rfl
   rw[he,cond_true,cNF,cNF]
end
end Go.Px
