/- The plain law, in parts: Base, Scan, Venue, Make, Kill, KillAsks, KillMore, KillNear, Run, Runs, Place, PlaceTop, PlaceApart, Plan, Plans, Geom, GeomFar. -/
import Derived.Test.YtlfpkjlaajfjnaaX
set_option linter.unusedVariables false
namespace Go.Px
open Go Go.Sh
theorem um (a m:Int) (h:0 < m):0≤(IntKind.u64.wrap a).tmod m∧(IntKind.u64.wrap a).tmod m < m:=by
 have h0:0≤IntKind.u64.wrap a:=by
  rw[IntKind.wrap_u64];omega
 exact⟨Int.tmod_nonneg _ h0,Int.tmod_lt_of_pos _ h⟩
theorem wr_id {x:Int} (h1 : -9223372036854775808≤x) (h2:x≤9223372036854775807):wr x=x:=w64 h1 h2
section
variable {α β:Type}
theorem condD {p:Prop} {_:Decidable p} {a b : α} (h:p):cond (decide p) a b=a:=by rw[decide_eq_true h];rfl
theorem condN {p:Prop} {_:Decidable p} {a b : α} (h:¬p):cond (decide p) a b=b:=by rw[decide_eq_false h];rfl
theorem elim_go {γ:Type} {a : α} {f : α → γ} {g : β → γ} : Ex.elim (.go a) f g=f a:=(exg rfl).symm
theorem elim_rt {γ:Type} {b : β} {f : α → γ} {g : β → γ} : Ex.elim (.rt b) f g=g b:=(exr rfl).symm
theorem bindS {x:Option α} {a : α} {f : α→Option β} (h:x=some a):Option.bind x f=f a:=by rw[h];rfl
end
end Go.Px

set_option linter.unusedVariables false
namespace Go.Px
open Go Go.Sh
section
variable {ρ α:Type}
end
theorem condNT {p:Prop} [Decidable p] {α:Type} {a b : α} (h:p):cond (!decide p) a b=b:=by rw[decide_eq_true h];rfl
theorem condNF {p:Prop} [Decidable p] {α:Type} {a b : α} (h:¬p):cond (!decide p) a b=a:=by rw[decide_eq_false h];rfl
theorem condAnd {p q:Prop} [Decidable p] [Decidable q] {x:Option Bool} (h:x=some (decide q)):cond (decide p) x (some false)=some (decide (p∧q)):=by
 by_cases hp:p
 ·rw[condD hp,h];simp [hp]
 ·rw[condN hp];simp [hp]
end Go.Px

set_option linter.unusedVariables false
set_option linter.unusedSimpArgs false
namespace Go.Px
open Go Go.Sh
abbrev InP (x a b:Int):Prop:=a≤x∧x≤b
abbrev CoordP (x:Int):Prop:=InP x (-1048576) 1048576
abbrev SeatP (s:Seat):Prop:=InP s.Row 0 999∧CoordP s.X∧CoordP s.Y∧InP s.Kind 0 2
abbrev LessP (a b:Seat):Prop:=a.Row < b.Row∨(a.Row=b.Row∧a.X < b.X)
abbrev SeatsP (l:List Seat):Prop:=∀j,j < l.length→∀s,l[j]?=some s→SeatP s∧(0 < j→∀r,l[j-1]?=some r→LessP r s)
abbrev KillsP (l:List Int) (m:Int):Prop:=∀j,j < l.length→∀s,l[j]?=some s→0≤s∧s < m∧(0 < j→∀r,l[j-1]?=some r→r < s)
abbrev PolesP (l:List Pole):Prop:=∀j,j < l.length→∀s,l[j]?=some s→CoordP s.X∧CoordP s.Y∧InP s.R 1 1048576
structure MayV (v:Venue):Prop where
 seats:SeatsP v.Seats
 n0:1≤v.Seats.length
 n1:v.Seats.length≤4096
 gap:InP v.Gap 1 1048576
 radius:InP v.Radius 0 1048576
 kills:KillsP v.Kills v.Seats.length
 k1:v.Kills.length≤200
 poles:PolesP v.Poles
 p1:v.Poles.length≤200
open Classical in
noncomputable def mayB (v:Venue):Bool:=decide (MayV v)
theorem venue_in_eq (k:Nat) (x a b:Int):venue_in k x a b=some (decide (InP x a b)):=by
 unfold venue_in
 exact condAnd rfl
theorem venue_Coord_eq (k:Nat) (x:Int):venue_Coord k x=some (decide (CoordP x)):=by
 unfold venue_Coord
 rw[bindS (venue_in_eq _ _ _ _)]
end Go.Px

set_option linter.unusedVariables false
set_option linter.unusedSimpArgs false
namespace Go.Px
open Go Go.Sh
structure MkI (S:List Seat) (rad:Int) (K:List Int) (P:List Pole) (row x:Int) (i:Nat):Prop where
 len:S.length=i+1
 seats:SeatsP S
 last:∀r,S[S.length-1]?=some r→r.Row=row∧r.X=x
 r0:0≤row
 r1:row≤i
 x0:0≤x
 x1:x≤15 * (i:Int)
 rad0:InP rad 0 24
 kills:KillsP K S.length
 kl:K.length≤S.length
 poles:PolesP P
 pl:P.length≤S.length
 sm:∀s,s ∈ S→InP s.X 0 (15 * (i:Int))∧InP s.Y 0 (10 * (i:Int))
structure MkF (m:Nat) (o:List Seat×Int×List Int×List Pole):Prop where
 seats:SeatsP o.1
 n0:1≤o.1.length
 n1:o.1.length≤m
 rad:InP o.2.1 0 24
 kills:KillsP o.2.2.1 o.1.length
 kl:o.2.2.1.length≤m
 poles:PolesP o.2.2.2
 pl:o.2.2.2.length≤m
 sm:∀s,s ∈ o.1→InP s.X 0 1500∧InP s.Y 0 1000
structure MadeV (m:Nat) (v:Venue):Prop where
 may:MayV v
 n1:v.Seats.length≤m
 gap:v.Gap=10
 rad:InP v.Radius 0 24
 kl:v.Kills.length≤m
 pl:v.Poles.length≤m
 sm:∀s,s ∈ v.Seats→InP s.X 0 1500∧InP s.Y 0 1000
end Go.Px

set_option linter.unusedVariables false
set_option linter.unusedSimpArgs false
namespace Go.Px
open Go Go.Sh
theorem sq_le {d:Int} (h:InP d (-2097152) 2097152):0≤d * d∧d * d≤4398046511104:=by
 have:d * d=((d.natAbs * d.natAbs:Nat):Int):=(Int.natAbs_mul_self' d).symm
 have h2:d.natAbs * d.natAbs≤2097152 * 2097152:=Nat.mul_le_mul (by omega) (by omega)
 omega
def far (a b:Seat):Int:=if CoordP a.X∧CoordP a.Y∧CoordP b.X∧CoordP b.Y then (a.X-b.X) * (a.X-b.X)+(a.Y-b.Y) * (a.Y-b.Y) else 0
theorem far_wr {a b:Seat} (h:CoordP a.X∧CoordP a.Y∧CoordP b.X∧CoordP b.Y):wr ((wr ((wr (a.X-b.X)) * (wr (a.X-b.X))))+(wr ((wr (a.Y-b.Y)) * (wr (a.Y-b.Y)))))=far a b:=by
 unfold far
 rw[if_pos h]
 have h1:=sq_le (d:=a.X-b.X) (by omega)
 have h2:=sq_le (d:=a.Y-b.Y) (by omega)
 rw[wr_id (x:=a.X-b.X) (by omega) (by omega),wr_id (x:=a.Y-b.Y) (by omega) (by omega),wr_id (x:=(a.X-b.X) * (a.X-b.X)) (by omega) (by omega),wr_id (x:=(a.Y-b.Y) * (a.Y-b.Y)) (by omega) (by omega)]
 exact wr_id (by omega) (by omega)
theorem geom_Far_eq (k:Nat) (a b:Seat) (hk:3≤k):geom_Far k a b=some (far a b):=by
 obtain⟨n,rfl⟩:∃n,k=n+3:=⟨k-3,by omega⟩
 unfold geom_Far
 have i0:idx [a,b] 0=some a:=rfl
 have i1:idx [a,b] 1=some b:=rfl
 have w1:wr (0+1)=1:=by decide
 have w2:wr (1+1)=2:=by decide
 rw[geom_Far_l0,condD (by show(0:Int) < 2;omega),bindS i0,bindS (venue_Coord_eq _ _),bindS (venue_Coord_eq _ _)]
 by_cases h1:CoordP a.X
 ·rw[condNT h1]
  by_cases h2:CoordP a.Y
  ·rw[condNT h2,w1,geom_Far_l0,condD (by show(1:Int) < 2;omega),bindS i1,bindS (venue_Coord_eq _ _),bindS (venue_Coord_eq _ _)]
   by_cases h3:CoordP b.X
   ·rw[condNT h3]
    by_cases h4:CoordP b.Y
    ·rw[condNT h4,w2,geom_Far_l0,condN (by show ¬(2:Int) < 2;omega),bindS rfl,elim_go,far_wr ⟨h1,h2,h3,h4⟩]
    ·rw[condNF h4,bindS rfl,elim_rt,far,if_neg (fun h=>h4 h.2.2.2)]
   ·rw[condNF h3,bindS rfl,elim_rt,far,if_neg (fun h=>h3 h.2.2.1)]
  ·rw[condNF h2,bindS rfl,elim_rt,far,if_neg (fun h=>h2 h.2.1)]
 ·rw[condNF h1,bindS rfl,elim_rt,far,if_neg (fun h=>h1 h.1)]
def closeB (a b:Seat) (r:Int):Bool:=decide (far a b < wr (r * r))
def poleS (p:Pole):Seat:=Seat.mk 0 p.X p.Y 0
instance:Inhabited Seat:=⟨Seat.mk 0 0 0 0⟩
def poleB (v:Venue) (s j:Nat):Bool:=closeB (v.Seats.getD s default) (poleS (v.Poles.getD j default)) (v.Poles.getD j default).R
def killL (v:Venue) (s:Nat):List Int:=(if (s:Int) ∈ v.Kills then [-1] else [])++((List.range v.Poles.length).filter (poleB v s)).map (fun j:Nat=>(j:Int))
def deadB (v:Venue) (s:Nat):Bool:=decide ((killL v s).length=0)
def usL (v:Venue):List Bool:=(List.range v.Seats.length).map (deadB v)
structure Small (k:Nat) (v:Venue):Prop where
 hs:v.Seats.length < k
 hk:v.Kills.length < k
 hp:v.Poles.length < k
 b:k≤4294967290
 b3:3≤k
end Go.Px

set_option linter.unusedVariables false
set_option linter.unusedSimpArgs false
namespace Go.Px
open Go Go.Sh
end Go.Px

set_option linter.unusedVariables false
set_option linter.unusedSimpArgs false
namespace Go.Px
open Go Go.Sh
end Go.Px

set_option linter.unusedVariables false
set_option linter.unusedSimpArgs false
namespace Go.Px
open Go Go.Sh
structure Mk (M:List Bool) (Q:Nat→Prop):Prop where
 len:M.length=40
 get:∀i,i < 40→∃b,M[i]?=some b∧(b=true ↔ Q i)
theorem Mk.zero:Mk (List.replicate 40 false) (fun _=>False):=by
 refine⟨by simp,fun i hi=>⟨false,?_,by simp⟩⟩
 rw[List.getElem?_replicate,if_pos hi]
end Go.Px

set_option linter.unusedVariables false
set_option linter.unusedSimpArgs false
namespace Go.Px
open Go Go.Sh
def seatA (v:Venue) (s:Int):Seat:=v.Seats.getD s.toNat default
structure Pre (p:Nat→Bool) (m r:Nat):Prop where
 le:r≤m
 all:∀j,j < r→p j=true
 stop:r < m→p r=false
theorem Pre.uniq {p:Nat→Bool} {m r r':Nat} (h:Pre p m r) (h':Pre p m r'):r=r':=by
 rcases Nat.lt_trichotomy r r' with hl | hl | hl
 ·have h1:=h'.all r hl
  have h2:=h.stop (by have:=h'.le;omega)
  rw[h1] at h2
  cases h2
 ·exact hl
 ·have h1:=h.all r' hl
  have h2:=h'.stop (by have:=h.le;omega)
  rw[h1] at h2
  cases h2
theorem Pre.cut {p:Nat→Bool} {m n r r':Nat} (h:Pre p m r) (h':Pre p n r') (hm:m≤n):r=min m r':=by
 refine h.uniq ⟨by omega,fun j hj=>h'.all j (by omega),fun hl=>?_⟩
 have:min m r'=r':=by omega
 rw[this] at hl ⊢
 exact h'.stop (by omega)
noncomputable def runN (v:Venue) (U:List Bool) (s:Int):Nat:=(ref6_long 4294967290 v U s).getD 0 |>.toNat
end Go.Px

set_option linter.unusedVariables false
set_option linter.unusedSimpArgs false
namespace Go.Px
open Go Go.Sh
end Go.Px

set_option linter.unusedVariables false
set_option linter.unusedSimpArgs false
namespace Go.Px
open Go Go.Sh
abbrev MayP (p:Party):Prop:=1≤p.Size∧p.Size≤8∧0≤p.Wheels∧p.Wheels≤2∧2 * p.Wheels≤p.Size
def kd (v:Venue) (s:Int) (m:Nat) (j:Int):Int:=if 0≤j∧j < m then (seatA v (s+j)).Kind else 0
def kF (v:Venue) (s:Int) (m:Nat):Nat→Nat→Int→Int→Ex (Int×Int) Bool
 | 0,_,w,c => .go (w,c)
 | d+1,j,w,c=>if kd v s m j=1 then (if ¬kd v s m ((j:Int)-1)=2∧¬kd v s m ((j:Int)+1)=2 then .rt false else kF v s m d (j+1) (w+1) c) else if kd v s m j=2 then kF v s m d (j+1) w (c+1) else kF v s m d (j+1) w c
def kindsB (v:Venue) (s:Int) (m:Nat) (want:Int):Bool:=match kF v s m m 0 0 0 with
 | .go (w,c)=>decide (w=want∧(want=0→c≤0))
 | .rt b=>b
noncomputable def placeB (v:Venue) (U:List Bool) (p:Party) (s:Int):Bool:=decide (MayP p∧p.Size≤runN v U s) && kindsB v s p.Size.toNat p.Wheels
/- the reference -/
/- apart -/
def ApP (v:Venue) (s:Int) (m:Nat) (t:Int) (n:Nat):Prop:=∀x,x < m→∀y,y < n→¬s+(x:Int)=t+(y:Int)∧closeB (seatA v (s+x)) (seatA v (t+y)) v.Radius=false
open Classical in
noncomputable def apB (v:Venue) (s:Int) (m:Nat) (t:Int) (n:Nat):Bool:=decide (ApP v s m t n)
end Go.Px

set_option linter.unusedVariables false
set_option linter.unusedSimpArgs false
namespace Go.Px
open Go Go.Sh
noncomputable def plB (v:Venue) (p:Party) (s:Int):Bool:=mayB v && placeB v (usL v) p s
noncomputable def aptB (v:Venue) (p:Party) (s:Int) (q:Party) (t:Int):Bool:=plB v p s && (plB v q t && apB v s p.Size.toNat t q.Size.toNat)
end Go.Px

set_option linter.unusedVariables false
set_option linter.unusedSimpArgs false
namespace Go.Px
open Go Go.Sh
theorem far_symm (a b:Seat):far a b=far b a:=by
 unfold far
 by_cases h:CoordP a.X∧CoordP a.Y∧CoordP b.X∧CoordP b.Y
 ·rw[if_pos h,if_pos ⟨h.2.2.1,h.2.2.2,h.1,h.2.1⟩,show b.X-a.X = -(a.X-b.X) by omega,show b.Y-a.Y = -(a.Y-b.Y) by omega,Int.neg_mul_neg,Int.neg_mul_neg]
 ·rw[if_neg h,if_neg (fun h'=>h ⟨h'.2.2.1,h'.2.2.2,h'.1,h'.2.1⟩)]
/- venues alike in all but kills, poles and radius -/
end Go.Px

set_option linter.unusedVariables false
set_option linter.unusedSimpArgs false
namespace Go.Px
open Go Go.Sh
section
open Classical
end
def aI {α:Type} [Inhabited α] (l:List α) (x:Int) : α:=l.getD x.toNat default
abbrev AllMay (L:List Party):Prop:=L.length≤512∧∀i:Nat,i < L.length→MayP (aI L i)
/- maps -/
def pmN (P:List Pin):Nat→List (Int×Int)
 | 0=>[]
 | i+1=>mset (pmN P i) (aI P i).Party (aI P i).First
def pinAt (P:List Pin) (x:Int):Option Int:=mget (pmN P P.length) x
def RiseP (P:List Pin):Prop:=∀i j:Nat,i < j→j < P.length→(aI P i).Party < (aI P j).Party
/- the halls' own words for one hall that may be -/
section
variable {k:Nat} {v:Venue}
end
/- pins -/
structure PinG (v:Venue) (L:List Party) (P:List Pin) (i:Nat):Prop where
 lo:0≤(aI P (i:Int)).Party
 hi:(aI P (i:Int)).Party < L.length
 rise:0 < i→(aI P ((i-1:Nat):Int)).Party < (aI P (i:Int)).Party
 pl:plB v (aI L (aI P (i:Int)).Party) (aI P (i:Int)).First=true
 ap:∀j:Nat,j < i→aptB v (aI L (aI P (i:Int)).Party) (aI P (i:Int)).First (aI L (aI P (j:Int)).Party) (aI P (j:Int)).First=true
abbrev PinOK (v:Venue) (L:List Party) (P:List Pin):Prop:=∀i,i < P.length→PinG v L P i
theorem PinOK.rise {v:Venue} {L:List Party} {P:List Pin} (h:PinOK v L P):RiseP P:=by
 intro i j hij hj
 obtain⟨d,rfl⟩:∃d,j=i+1+d:=⟨j-(i+1),by omega⟩
 clear hij
 induction d with
 | zero =>
  have:=(h (i+1) hj).rise (by omega)
  exact this
 | succ d ih =>
  have:=(h (i+1+(d+1)) hj).rise (by omega)
  rw[show i+1+(d+1)-1=i+1+d by omega] at this
  have:=ih (by omega)
  omega
section
variable {k:Nat} {v:Venue} {L:List Party} {P:List Pin}
abbrev InOK (v:Venue) (L:List Party) (P:List Pin):Prop:=MayV v∧PinOK v L P∧AllMay L
/- plans -/
structure OkAt (v:Venue) (L:List Party) (P:List Pin) (r:List Int) (i:Nat):Prop where
 pin:∀f,pinAt P (i:Int)=some f→aI r (i:Int)=f
 pl:¬aI r (i:Int) = -1→plB v (aI L (i:Int)) (aI r (i:Int))=true
 ap:¬aI r (i:Int) = -1→∀j:Nat,j < i→¬aI r (j:Int) = -1→aptB v (aI L (i:Int)) (aI r (i:Int)) (aI L (j:Int)) (aI r (j:Int))=true
structure PlanP (v:Venue) (L:List Party) (P:List Pin) (r:List Int):Prop where
 inn:InOK v L P
 len:r.length=L.length
 at_:∀i,i < r.length→OkAt v L P r i
end
end Go.Px

set_option linter.unusedVariables false
set_option linter.unusedSimpArgs false
namespace Go.Px
open Go Go.Sh
structure Prob (v:Venue) (L:List Party):Prop where
 may:MayV v
 n1:v.Seats.length≤9
 kl:v.Kills.length≤9
 pl:v.Poles.length≤9
 rad:InP v.Radius 0 24
 l4:L.length≤4
 ps:∀i:Nat,i < L.length→MayP (aI L (i:Int))∧(aI L (i:Int)).Size≤3
theorem Prob.all {v:Venue} {L:List Party} (h:Prob v L):AllMay L:=⟨by have:=h.l4;omega,fun i hi=>(h.ps i hi).1⟩
theorem Prob.inn {v:Venue} {L:List Party} (h:Prob v L) {P:List Pin} (hP:PinOK v L P):InOK v L P:=⟨h.may,hP,h.all⟩
/- all plans -/
section
variable {k:Nat} {v:Venue} {L:List Party}
/- persons -/
end
end Go.Px

set_option linter.unusedVariables false
set_option linter.unusedSimpArgs false
namespace Go.Px
open Go Go.Sh
theorem law6_told_eq:law6_told 2000=some true:=by decide +kernel
section
variable {k:Nat} {v:Venue}
end
end Go.Px

set_option linter.unusedVariables false
set_option linter.unusedSimpArgs false
namespace Go.Px
open Go Go.Sh
theorem sq_nn (x:Int):0≤x * x:=by
 rcases Int.le_total 0 x with h | h
 ·exact Int.mul_nonneg h h
 ·exact Int.mul_nonneg_of_nonpos_of_nonpos h h
theorem sq_zero {x:Int} : x * x=0 ↔ x=0:=by
 rw[Int.mul_eq_zero]
 exact or_self_iff
theorem sq_sum (p q:Int):(p+q) * (p+q)≤2 * (p * p+q * q):=by
 have h:=sq_nn (p-q)
 rw[Int.sub_mul,Int.mul_sub,Int.mul_sub] at h
 rw[Int.add_mul,Int.mul_add,Int.mul_add,Int.mul_comm q p]
 rw[Int.mul_comm q p] at h
 omega
theorem fit_eq (k:Nat) (s:Seat):∃t,law6_fit k s=some t∧CoordP t.X∧CoordP t.Y:=by
 obtain⟨u0,u1⟩:=um s.X 2097153 (by omega)
 obtain⟨w0,w1⟩:=um s.Y 2097153 (by omega)
 unfold law6_fit
 rw[wr_id (x:=(IntKind.u64.wrap s.X).tmod 2097153) (by omega) (by omega),wr_id (x:=(IntKind.u64.wrap s.X).tmod 2097153-1048576) (by omega) (by omega),wr_id (x:=(IntKind.u64.wrap s.Y).tmod 2097153) (by omega) (by omega),wr_id (x:=(IntKind.u64.wrap s.Y).tmod 2097153-1048576) (by omega) (by omega)]
 exact⟨_,rfl,⟨by simp only;omega,by simp only;omega⟩,⟨by simp only;omega,by simp only;omega⟩⟩
theorem GeomFar_true (a0:Seat) (h0:okSeat a0) (a1:Seat) (h1:okSeat a1) (a2:Seat) (h2:okSeat a2):∃k,law6_GeomFar k a0 a1 a2=some true:=by
 refine⟨2000,?_⟩
 obtain⟨x,ex,x1,x2⟩:=fit_eq 2000 a0
 obtain⟨y,ey,y1,y2⟩:=fit_eq 2000 a1
 obtain⟨z,ez,z1,z2⟩:=fit_eq 2000 a2
 unfold law6_GeomFar
 rw[bindS ex,bindS ey,bindS ez,bindS (geom_Far_eq _ _ _ (by omega)),bindS (geom_Far_eq _ _ _ (by omega)),bindS (geom_Far_eq _ _ _ (by omega)),bindS law6_told_eq,cond_true,bindS (geom_Far_eq _ _ _ (by omega)),condD (far_symm x y)]
 have d:far x y=(x.X-y.X) * (x.X-y.X)+(x.Y-y.Y) * (x.Y-y.Y):=if_pos ⟨x1,x2,y1,y2⟩
 have e:far y z=(y.X-z.X) * (y.X-z.X)+(y.Y-z.Y) * (y.Y-z.Y):=if_pos ⟨y1,y2,z1,z2⟩
 have f:far x z=(x.X-z.X) * (x.X-z.X)+(x.Y-z.Y) * (x.Y-z.Y):=if_pos ⟨x1,x2,z1,z2⟩
 have s1:=sq_sum (x.X-y.X) (y.X-z.X)
 have s2:=sq_sum (x.Y-y.Y) (y.Y-z.Y)
 rw[show x.X-y.X+(y.X-z.X)=x.X-z.X by omega] at s1
 rw[show x.Y-y.Y+(y.Y-z.Y)=x.Y-z.Y by omega] at s2
 have q1:=sq_le (d:=x.X-y.X) (by omega)
 have q2:=sq_le (d:=x.Y-y.Y) (by omega)
 have q3:=sq_le (d:=y.X-z.X) (by omega)
 have q4:=sq_le (d:=y.Y-z.Y) (by omega)
 have hw:wr (2 * wr (far x y+far y z))=2 * (far x y+far y z):=by
  rw[wr_id (x:=far x y+far y z) (by omega) (by omega),wr_id (by omega) (by omega)]
 have hf:far x z≤2 * (far x y+far y z):=by omega
 have hd:0≤far x y:=by omega
 rw[hw,decide_eq_true hf,condD hd]
 by_cases hx:x.X=y.X
 ·rw[condD hx]
  have hz:decide (far x y=0)=decide (x.Y=y.Y):=by
   have h0:(x.X-y.X) * (x.X-y.X)=0:=sq_zero.2 (by omega)
   by_cases hy:x.Y=y.Y
   ·have h1:(x.Y-y.Y) * (x.Y-y.Y)=0:=sq_zero.2 (by omega)
    rw[decide_eq_true hy,decide_eq_true (by omega)]
   ·have h1:¬(x.Y-y.Y) * (x.Y-y.Y)=0:=fun h=>hy (by have:=sq_zero.1 h;omega)
    rw[decide_eq_false hy,decide_eq_false (by omega)]
  rw[hz,beq_self_eq_true,cond_true]
 ·rw[condN hx]
  have h1:¬(x.X-y.X) * (x.X-y.X)=0:=fun h=>hx (by have:=sq_zero.1 h;omega)
  rw[decide_eq_false (p:=far x y=0) (by omega)]
  rfl
end Go.Px
