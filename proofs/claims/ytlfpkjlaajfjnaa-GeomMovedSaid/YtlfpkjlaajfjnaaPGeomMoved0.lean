/- The plain law, in parts: Base, Scan, Venue, Make, Kill, KillAsks, KillMore, KillNear, Run, Runs, Place, PlaceTop, PlaceApart, Plan, Plans, Geom, GeomMoved. -/
import Derived.Test.YtlfpkjlaajfjnaaX
set_option linter.unusedVariables false
namespace Go.Px
open Go Go.Sh
theorem um (a m:Int) (h:0 < m):0≤(IntKind.u64.wrap a).tmod m∧(IntKind.u64.wrap a).tmod m < m:=by
 have h0:0≤IntKind.u64.wrap a:=by
  rw[IntKind.wrap_u64];omega
 exact⟨Int.tmod_nonneg _ h0,Int.tmod_lt_of_pos _ h⟩
theorem wr_id {x:Int} (h1 : -9223372036854775808≤x) (h2:x≤9223372036854775807):wr x=x:=w64 h1 h2
section
variable {α β:Type}
theorem condF {c:Bool} {a b : α} (h:c=false):cond c a b=b:=by rw[h];rfl
theorem condD {p:Prop} {_:Decidable p} {a b : α} (h:p):cond (decide p) a b=a:=by rw[decide_eq_true h];rfl
theorem condN {p:Prop} {_:Decidable p} {a b : α} (h:¬p):cond (decide p) a b=b:=by rw[decide_eq_false h];rfl
theorem gdD {p:Prop} {_:Decidable p} {r:Option α} (h:p):gd (decide p) r=r:=by rw[decide_eq_true h];rfl
theorem elim_go {γ:Type} {a : α} {f : α → γ} {g : β → γ} : Ex.elim (.go a) f g=f a:=(exg rfl).symm
theorem elim_rt {γ:Type} {b : β} {f : α → γ} {g : β → γ} : Ex.elim (.rt b) f g=g b:=(exr rfl).symm
theorem bindS {x:Option α} {a : α} {f : α→Option β} (h:x=some a):Option.bind x f=f a:=by rw[h];rfl
theorem idx_get {l:List α} {i:Int} {y : α} (h0:0≤i) (h:l[i.toNat]?=some y):idx l i=some y:=by unfold idx;rw[if_pos h0,h]
theorem idx_nat {l:List α} {n:Nat} (h:n < l.length):idx l (n:Int)=some l[n]:=idx_get (by omega) (by rw[Int.toNat_natCast];exact List.getElem?_eq_getElem h)
end
theorem wr_succ {i:Nat} (h:i < 4294967296):wr ((i:Int)+1)=((i+1:Nat):Int):=by rw[wr_id (by omega) (by omega)];omega
end Go.Px

set_option linter.unusedVariables false
namespace Go.Px
open Go Go.Sh
section
variable {ρ α:Type}
theorem scan_go {f:Nat→Int→Option (Ex Unit ρ)} {len:Nat} {good:Nat→Prop}
  (hs:∀n i:Nat,i < len→good i→f (n+1) (i:Int)=f n ((i+1:Nat):Int))
  (he:∀n,f (n+1) (len:Int)=some (.go ())):∀d n i:Nat,i+d=len→d < n→(∀j,i≤j→j < len→good j)→f n (i:Int)=some (.go ())
 | d,0,i,_,h,_=>absurd h (by omega)
 | 0,n+1,i,hi,_,_=>by
  obtain rfl:i=len:=by omega
  exact he n
 | d+1,n+1,i,hi,h,hg=>by
  rw[hs n i (by omega) (hg i (by omega) (by omega))]
  exact scan_go hs he d n (i+1) (by omega) (by omega) (fun j h1 h2=>hg j (by omega) h2)
theorem scan_rt {f:Nat→Int→Option (Ex Unit ρ)} {len:Nat} {good:Nat→Prop} {r : ρ}
  (hs:∀n i:Nat,i < len→good i→f (n+1) (i:Int)=f n ((i+1:Nat):Int))
  (hf:∀n i:Nat,i < len→¬good i→f (n+1) (i:Int)=some (.rt r)):∀d n i:Nat,i+d=len→d < n→(∃j,i≤j∧j < len∧¬good j)→f n (i:Int)=some (.rt r)
 | d,0,i,_,h,_=>absurd h (by omega)
 | 0,n+1,i,hi,_,hg=>by
  obtain⟨j,h1,h2,_⟩:=hg
  omega
 | d+1,n+1,i,hi,h,hg=>by
  rcases Classical.em (good i) with hh | hh
  ·rw[hs n i (by omega) hh]
   refine scan_rt hs hf d n (i+1) (by omega) (by omega) ?_
   obtain⟨j,h1,h2,h3⟩:=hg
   refine⟨j,?_,h2,h3⟩
   rcases Nat.lt_or_ge i j with hl | hl
   ·omega
   ·exact absurd (show good j from by rw[show j=i by omega];exact hh) h3
  ·exact hf n i (by omega) hh
theorem scan {f:Nat→Int→Option (Ex Unit ρ)} {len:Nat} (good:Nat→Prop) {r : ρ}
  (hs:∀n i:Nat,i < len→good i→f (n+1) (i:Int)=f n ((i+1:Nat):Int))
  (hf:∀n i:Nat,i < len→¬good i→f (n+1) (i:Int)=some (.rt r))
  (he:∀n,f (n+1) (len:Int)=some (.go ())) {k:Nat} (hk:len < k) :
  ((∀j,j < len→good j)∧f k 0=some (.go ()))∨((¬∀j,j < len→good j)∧f k 0=some (.rt r)):=by
 rcases Classical.em (∀j,j < len→good j) with h | h
 ·exact .inl ⟨h,scan_go hs he len k 0 (by omega) hk fun j _ h2=>h j h2⟩
 ·refine .inr ⟨h,scan_rt hs hf len k 0 (by omega) hk ?_⟩
  obtain⟨j,hj⟩:=Classical.not_forall.1 h
  obtain⟨h1,h2⟩:=Classical.not_imp.1 hj
  exact⟨j,by omega,h1,h2⟩
theorem gather {f:Nat→List α→Int→Option (List α)} {len c:Nat} (p:Nat→Bool) (g:Nat → α)
  (hs:∀(n i:Nat) v,i < len→v.length≤c+i→f (n+1) v (i:Int)=f n (if p i then v++[g i] else v) ((i+1:Nat):Int))
  (he:∀n v,f (n+1) v (len:Int)=some v):∀(d n i:Nat) v,i+d=len→d < n→v.length≤c+i→f n v (i:Int)=some (v++((List.range' i d).filter p).map g)
 | d,0,i,v,_,h,_=>absurd h (by omega)
 | 0,n+1,i,v,hi,_,_=>by
  obtain rfl:i=len:=by omega
  rw[he]
  simp
 | d+1,n+1,i,v,hi,h,hv=>by
  rw[hs n i v (by omega) hv]
  have:=gather p g hs he d n (i+1) (if p i then v++[g i] else v) (by omega) (by omega) (by split <;> (try rw[List.length_append,List.length_singleton]) <;> omega)
  rw[this,List.range'_succ,List.filter_cons]
  cases p i <;> simp
theorem gather0 {f:Nat→List α→Int→Option (List α)} {len c:Nat} (p:Nat→Bool) (g:Nat → α)
  (hs:∀(n i:Nat) v,i < len→v.length≤c+i→f (n+1) v (i:Int)=f n (if p i then v++[g i] else v) ((i+1:Nat):Int))
  (he:∀n v,f (n+1) v (len:Int)=some v) {k:Nat} (hk:len < k) (v:List α) (hv:v.length≤c):f k v 0=some (v++((List.range len).filter p).map g):=by
 rw[List.range_eq_range']
 exact gather p g hs he len k 0 v (by omega) hk (by omega)
end
theorem wr_pred {i:Nat} (h:0 < i) (h2:i < 4294967296):wr ((i:Int)-1)=((i-1:Nat):Int):=by rw[wr_id (by omega) (by omega)];omega
theorem cNT {α:Type} {a b : α} : cond (!true) a b=b:=rfl
theorem cNF {α:Type} {a b : α} : cond (!false) a b=a:=rfl
theorem condNT {p:Prop} [Decidable p] {α:Type} {a b : α} (h:p):cond (!decide p) a b=b:=by rw[decide_eq_true h];rfl
theorem condNF {p:Prop} [Decidable p] {α:Type} {a b : α} (h:¬p):cond (!decide p) a b=a:=by rw[decide_eq_false h];rfl
theorem condAnd {p q:Prop} [Decidable p] [Decidable q] {x:Option Bool} (h:x=some (decide q)):cond (decide p) x (some false)=some (decide (p∧q)):=by
 by_cases hp:p
 ·rw[condD hp,h];simp [hp]
 ·rw[condN hp];simp [hp]
end Go.Px

set_option linter.unusedVariables false
set_option linter.unusedSimpArgs false
namespace Go.Px
open Go Go.Sh
abbrev InP (x a b:Int):Prop:=a≤x∧x≤b
abbrev CoordP (x:Int):Prop:=InP x (-1048576) 1048576
abbrev SeatP (s:Seat):Prop:=InP s.Row 0 999∧CoordP s.X∧CoordP s.Y∧InP s.Kind 0 2
abbrev LessP (a b:Seat):Prop:=a.Row < b.Row∨(a.Row=b.Row∧a.X < b.X)
abbrev SeatsP (l:List Seat):Prop:=∀j,j < l.length→∀s,l[j]?=some s→SeatP s∧(0 < j→∀r,l[j-1]?=some r→LessP r s)
abbrev KillsP (l:List Int) (m:Int):Prop:=∀j,j < l.length→∀s,l[j]?=some s→0≤s∧s < m∧(0 < j→∀r,l[j-1]?=some r→r < s)
abbrev PolesP (l:List Pole):Prop:=∀j,j < l.length→∀s,l[j]?=some s→CoordP s.X∧CoordP s.Y∧InP s.R 1 1048576
structure MayV (v:Venue):Prop where
 seats:SeatsP v.Seats
 n0:1≤v.Seats.length
 n1:v.Seats.length≤4096
 gap:InP v.Gap 1 1048576
 radius:InP v.Radius 0 1048576
 kills:KillsP v.Kills v.Seats.length
 k1:v.Kills.length≤200
 poles:PolesP v.Poles
 p1:v.Poles.length≤200
open Classical in
noncomputable def mayB (v:Venue):Bool:=decide (MayV v)
open Classical in
theorem mayB_iff {v:Venue} : mayB v=true ↔ MayV v:=by unfold mayB;exact decide_eq_true_iff
theorem venue_in_eq (k:Nat) (x a b:Int):venue_in k x a b=some (decide (InP x a b)):=by
 unfold venue_in
 exact condAnd rfl
theorem venue_Coord_eq (k:Nat) (x:Int):venue_Coord k x=some (decide (CoordP x)):=by
 unfold venue_Coord
 rw[bindS (venue_in_eq _ _ _ _)]
theorem venue_Row_eq (k:Nat) (x:Int):venue_Row k x=some (decide (InP x 0 999)):=by
 unfold venue_Row
 rw[bindS (venue_in_eq _ _ _ _)]
theorem venue_Reach_eq (k:Nat) (x:Int):venue_Reach k x=some (decide (InP x 1 1048576)):=by
 unfold venue_Reach
 rw[bindS (venue_in_eq _ _ _ _)]
theorem venue_seat_eq (k:Nat) (s:Seat):venue_seat k s=some (decide (SeatP s)):=by
 unfold venue_seat
 have h:(Option.bind (venue_Row k s.Row) fun r2=>cond r2 (Option.bind (venue_Coord k s.X) fun r5=>cond r5 (Option.bind (venue_Coord k s.Y) fun r8=>some r8) (some false)) (some false))=some (decide (InP s.Row 0 999∧CoordP s.X∧CoordP s.Y)):=by
  rw[bindS (venue_Row_eq _ _)]
  refine condAnd ?_
  rw[bindS (venue_Coord_eq _ _)]
  refine condAnd ?_
  rw[bindS (venue_Coord_eq _ _)]
 rw[h]
 by_cases h0:s.Kind=0
 ·rw[condD h0]
  congr 1
  rw[decide_eq_decide]
  omega
 rw[condN h0]
 by_cases h1:s.Kind=1
 ·rw[condD h1]
  congr 1
  rw[decide_eq_decide]
  omega
 rw[condN h1]
 by_cases h2:s.Kind=2
 ·rw[condD h2]
  congr 1
  rw[decide_eq_decide]
  omega
 rw[condN h2]
 congr 1
 symm
 rw[decide_eq_false_iff_not]
 omega
theorem venue_Less_eq (k:Nat) (a b:Seat):venue_Less k a b=some (decide (LessP a b)):=by
 unfold venue_Less
 by_cases h:a.Row < b.Row
 ·rw[condD h,decide_eq_true (.inl h)]
 ·rw[condN h,condAnd rfl]
  congr 1
  rw[decide_eq_decide]
  omega
theorem some_get {α:Type} {l:List α} {i:Nat} (h:i < l.length):∃s,l[i]?=some s∧idx l (i:Int)=some s:=⟨l[i],List.getElem?_eq_getElem h,idx_nat h⟩
theorem venue_seats_eq (k:Nat) (l:List Seat) (hl:l.length < k) (hb:l.length≤4294967295):∃b,venue_seats k l=some b∧(b=true ↔ SeatsP l∧1≤l.length∧l.length≤4096):=by
 unfold venue_seats
 have hs:∀n i:Nat,i < l.length→(∀s,l[i]?=some s→SeatP s∧(0 < i→∀r,l[i-1]?=some r→LessP r s))→venue_seats_l0 k l (n+1) (i:Int)=venue_seats_l0 k l n ((i+1:Nat):Int):=by
  intro n i hi hg
  obtain⟨s,e1,e2⟩:=some_get hi
  obtain⟨g1,g2⟩:=hg s e1
  rw[venue_seats_l0,condD (by omega),bindS e2,bindS (venue_seat_eq _ _),condNT g1,wr_succ (by omega)]
  by_cases h0:0 < i
  ·obtain⟨r,f1,f2⟩:=some_get (l:=l) (i:=i-1) (by omega)
   rw[condD (by omega),wr_pred h0 (by omega),bindS f2,bindS (venue_Less_eq _ _ _),condNT (g2 h0 r f1)]
  ·rw[condN (by omega)]
 have hf:∀n i:Nat,i < l.length→¬(∀s,l[i]?=some s→SeatP s∧(0 < i→∀r,l[i-1]?=some r→LessP r s))→venue_seats_l0 k l (n+1) (i:Int)=some (.rt false):=by
  intro n i hi hg
  obtain⟨s,e1,e2⟩:=some_get hi
  rw[venue_seats_l0,condD (by omega),bindS e2,bindS (venue_seat_eq _ _)]
  by_cases g1:SeatP s
  ·rw[condNT g1]
   by_cases h0:0 < i
   ·obtain⟨r,f1,f2⟩:=some_get (l:=l) (i:=i-1) (by omega)
    rw[condD (by omega),wr_pred h0 (by omega),bindS f2,bindS (venue_Less_eq _ _ _),condNF]
    intro hh
    refine hg fun s' e'=>?_
    rw[e1] at e'
    cases e'
    refine⟨g1,fun _ r' f'=>?_⟩
    rw[f1] at f'
    cases f'
    exact hh
   ·refine absurd (fun s' e'=>?_) hg
    rw[e1] at e'
    cases e'
    exact⟨g1,fun h=>absurd h h0⟩
  ·rw[condNF g1]
 have he:∀n,venue_seats_l0 k l (n+1) (l.length:Int)=some (.go ()):=fun n=>by rw[venue_seats_l0,condN (by omega)]
 rcases scan _ hs hf he hl with⟨g,e⟩ | ⟨g,e⟩
 ·rw[bindS e,elim_go,condAnd rfl]
  refine⟨_,rfl,?_⟩
  rw[decide_eq_true_iff]
  constructor
  ·rintro ⟨a,b⟩;exact⟨g,by omega,by omega⟩
  ·rintro ⟨_,a,b⟩;omega
 ·rw[bindS e,elim_rt]
  exact⟨_,rfl,by simp;exact fun h=>absurd h g⟩
theorem venue_kills_eq (k:Nat) (l:List Int) (m:Int) (hl:l.length < k) (hb:l.length≤4294967295):∃b,venue_kills k l m=some b∧(b=true ↔ KillsP l m∧l.length≤200):=by
 unfold venue_kills
 have hs:∀n i:Nat,i < l.length→(∀s,l[i]?=some s→0≤s∧s < m∧(0 < i→∀r,l[i-1]?=some r→r < s))→venue_kills_l0 k l m (n+1) (i:Int)=venue_kills_l0 k l m n ((i+1:Nat):Int):=by
  intro n i hi hg
  obtain⟨s,e1,e2⟩:=some_get hi
  obtain⟨g1,g2,g3⟩:=hg s e1
  rw[venue_kills_l0,condD (by omega),bindS e2,condN (by omega),condN (by omega),wr_succ (by omega)]
  by_cases h0:0 < i
  ·obtain⟨r,f1,f2⟩:=some_get (l:=l) (i:=i-1) (by omega)
   have:=g3 h0 r f1
   rw[condD (by omega),wr_pred h0 (by omega),bindS f2,condN (by omega)]
  ·rw[condN (by omega)]
 have hf:∀n i:Nat,i < l.length→¬(∀s,l[i]?=some s→0≤s∧s < m∧(0 < i→∀r,l[i-1]?=some r→r < s))→venue_kills_l0 k l m (n+1) (i:Int)=some (.rt false):=by
  intro n i hi hg
  obtain⟨s,e1,e2⟩:=some_get hi
  rw[venue_kills_l0,condD (by omega),bindS e2]
  by_cases g1:s < 0
  ·rw[condD g1]
  rw[condN g1]
  by_cases g2:m≤s
  ·rw[condD g2]
  rw[condN g2]
  by_cases h0:0 < i
  ·obtain⟨r,f1,f2⟩:=some_get (l:=l) (i:=i-1) (by omega)
   rw[condD (by omega),wr_pred h0 (by omega),bindS f2,condD]
   apply Classical.byContradiction
   intro hh
   refine hg fun s' e'=>?_
   rw[e1] at e'
   cases e'
   refine⟨by omega,by omega,fun _ r' f'=>?_⟩
   rw[f1] at f'
   cases f'
   omega
  ·refine absurd (fun s' e'=>?_) hg
   rw[e1] at e'
   cases e'
   exact⟨by omega,by omega,fun h=>absurd h h0⟩
 have he:∀n,venue_kills_l0 k l m (n+1) (l.length:Int)=some (.go ()):=fun n=>by rw[venue_kills_l0,condN (by omega)]
 rcases scan _ hs hf he hl with⟨g,e⟩ | ⟨g,e⟩
 ·rw[bindS e,elim_go]
  refine⟨_,rfl,?_⟩
  rw[decide_eq_true_iff]
  constructor
  ·intro a;exact⟨g,by omega⟩
  ·rintro ⟨_,a⟩;omega
 ·rw[bindS e,elim_rt]
  exact⟨_,rfl,by simp;exact fun h=>absurd h g⟩
theorem venue_poles_eq (k:Nat) (l:List Pole) (hl:l.length < k) (hb:l.length≤4294967295):∃b,venue_poles k l=some b∧(b=true ↔ PolesP l∧l.length≤200):=by
 unfold venue_poles
 have hs:∀n i:Nat,i < l.length→(∀s,l[i]?=some s→CoordP s.X∧CoordP s.Y∧InP s.R 1 1048576)→venue_poles_l0 k l (n+1) (i:Int)=venue_poles_l0 k l n ((i+1:Nat):Int):=by
  intro n i hi hg
  obtain⟨s,e1,e2⟩:=some_get hi
  obtain⟨g1,g2,g3⟩:=hg s e1
  rw[venue_poles_l0,condD (by omega),bindS e2,bindS (venue_Coord_eq _ _),condNT g1,bindS (venue_Coord_eq _ _),condNT g2,bindS (venue_Reach_eq _ _),condNT g3,wr_succ (by omega)]
 have hf:∀n i:Nat,i < l.length→¬(∀s,l[i]?=some s→CoordP s.X∧CoordP s.Y∧InP s.R 1 1048576)→venue_poles_l0 k l (n+1) (i:Int)=some (.rt false):=by
  intro n i hi hg
  obtain⟨s,e1,e2⟩:=some_get hi
  rw[venue_poles_l0,condD (by omega),bindS e2,bindS (venue_Coord_eq _ _),bindS (venue_Coord_eq _ _),bindS (venue_Reach_eq _ _)]
  by_cases g1:CoordP s.X
  ·by_cases g2:CoordP s.Y
   ·by_cases g3:InP s.R 1 1048576
    ·refine absurd (fun s' e'=>?_) hg
     rw[e1] at e'
     cases e'
     exact⟨g1,g2,g3⟩
    ·rw[condNT g1,condNT g2,condNF g3]
   ·rw[condNT g1,condNF g2]
  ·rw[condNF g1]
 have he:∀n,venue_poles_l0 k l (n+1) (l.length:Int)=some (.go ()):=fun n=>by rw[venue_poles_l0,condN (by omega)]
 rcases scan _ hs hf he hl with⟨g,e⟩ | ⟨g,e⟩
 ·rw[bindS e,elim_go]
  refine⟨_,rfl,?_⟩
  rw[decide_eq_true_iff]
  constructor
  ·intro a;exact⟨g,by omega⟩
  ·rintro ⟨_,a⟩;omega
 ·rw[bindS e,elim_rt]
  exact⟨_,rfl,by simp;exact fun h=>absurd h g⟩
theorem notT {b:Bool} {p:Prop} (h:b=true ↔ p):(p∧b=true)∨(¬p∧b=false):=by
 cases b
 ·exact .inr ⟨fun hp=>absurd (h.2 hp) (by simp),rfl⟩
 ·exact .inl ⟨h.1 rfl,rfl⟩
theorem may_no {v:Venue} (h:¬MayV v):mayB v=false:=by
 cases e:mayB v
 ·rfl
 ·exact absurd (mayB_iff.1 e) h
theorem venue_May_eq (k:Nat) (v:Venue) (h1:v.Seats.length < k) (h2:v.Kills.length < k) (h3:v.Poles.length < k) (hk:k≤4294967295):venue_May k v=some (mayB v):=by
 unfold venue_May venue_Wrong
 obtain⟨b1,e1,g1⟩:=venue_seats_eq k v.Seats h1 (by omega)
 obtain⟨b2,e2,g2⟩:=venue_kills_eq k v.Kills (v.Seats.length:Int) h2 (by omega)
 obtain⟨b3,e3,g3⟩:=venue_poles_eq k v.Poles h3 (by omega)
 rw[bindS e1,bindS (venue_Reach_eq _ _),bindS (venue_in_eq _ _ _ _),bindS e2,bindS e3]
 rcases notT g1 with⟨p1,rfl⟩ | ⟨p1,rfl⟩
 ·by_cases p4:InP v.Gap 1 1048576
  ·by_cases p5:InP v.Radius 0 1048576
   ·rcases notT g2 with⟨p2,rfl⟩ | ⟨p2,rfl⟩
    ·rcases notT g3 with⟨p3,rfl⟩ | ⟨p3,rfl⟩
     ·rw[mayB_iff.2 ⟨p1.1,p1.2.1,p1.2.2,p4,p5,p2.1,p2.2,p3.1,p3.2⟩,condNT p4,condNT p5]
      rfl
     ·rw[may_no (fun h=>p3 ⟨h.poles,h.p1⟩),condNT p4,condNT p5]
      rfl
    ·rw[may_no (fun h=>p2 ⟨h.kills,h.k1⟩),condNT p4,condNT p5]
     rfl
   ·rw[may_no (fun h=>p5 h.radius),condNT p4,condNF p5]
    rfl
  ·rw[may_no (fun h=>p4 h.gap),condNF p4]
   rfl
 ·rw[may_no (fun h=>p1 ⟨h.seats,h.n0,h.n1⟩)]
  rfl
end Go.Px

set_option linter.unusedVariables false
set_option linter.unusedSimpArgs false
namespace Go.Px
open Go Go.Sh
theorem snoc_get {α:Type} {l:List α} {x s : α} {j:Nat} (h:(l++[x])[j]?=some s):(j < l.length∧l[j]?=some s)∨(j=l.length∧s=x):=by
 rcases Nat.lt_or_ge j l.length with hl | hl
 ·rw[List.getElem?_append_left hl] at h
  exact .inl ⟨hl,h⟩
 ·rw[List.getElem?_append_right hl] at h
  rcases Nat.eq_or_lt_of_le hl with e | hl
  ·rw[← e,Nat.sub_self] at h
   simp at h
   exact .inr ⟨e.symm,h.symm⟩
  ·rw[List.getElem?_eq_none (by simp;omega)] at h
   cases h
theorem SeatsP.snoc {l:List Seat} {x:Seat} (h:SeatsP l) (hx:SeatP x) (hl:∀r,l[l.length-1]?=some r→LessP r x):SeatsP (l++[x]):=by
 intro j hj s hs
 rcases snoc_get hs with⟨h1,h2⟩ | ⟨h1,rfl⟩
 ·refine⟨(h j h1 s h2).1,fun h0 r hr=>(h j h1 s h2).2 h0 r ?_⟩
  rcases snoc_get hr with⟨_,hr⟩ | ⟨e,_⟩
  ·exact hr
  ·omega
 ·refine⟨hx,fun h0 r hr=>?_⟩
  rcases snoc_get hr with⟨_,hr⟩ | ⟨e,_⟩
  ·rw[h1] at hr
   exact hl r hr
  ·omega
theorem KillsP.snoc {l:List Int} {x m:Int} (h:KillsP l x) (h0:0≤x) (hx:x < m):KillsP (l++[x]) m:=by
 intro j hj s hs
 rcases snoc_get hs with⟨h1,h2⟩ | ⟨h1,rfl⟩
 ·obtain⟨a,b,c⟩:=h j h1 s h2
  refine⟨a,by omega,fun h0 r hr=>c h0 r ?_⟩
  rcases snoc_get hr with⟨_,hr⟩ | ⟨e,_⟩
  ·exact hr
  ·omega
 ·refine⟨h0,hx,fun h0 r hr=>?_⟩
  rcases snoc_get hr with⟨hl,hr⟩ | ⟨e,_⟩
  ·exact(h _ hl r hr).2.1
  ·omega
theorem KillsP.mono {l:List Int} {x m:Int} (h:KillsP l x) (hx:x≤m):KillsP l m:=fun j hj s hs=>by
 obtain⟨a,b,c⟩:=h j hj s hs
 exact⟨a,by omega,c⟩
theorem PolesP.snoc {l:List Pole} {x:Pole} (h:PolesP l) (hx:CoordP x.X∧CoordP x.Y∧InP x.R 1 1048576):PolesP (l++[x]):=by
 intro j hj s hs
 rcases snoc_get hs with⟨h1,h2⟩ | ⟨h1,rfl⟩
 ·exact h j h1 s h2
 ·exact hx
structure MkI (S:List Seat) (rad:Int) (K:List Int) (P:List Pole) (row x:Int) (i:Nat):Prop where
 len:S.length=i+1
 seats:SeatsP S
 last:∀r,S[S.length-1]?=some r→r.Row=row∧r.X=x
 r0:0≤row
 r1:row≤i
 x0:0≤x
 x1:x≤15 * (i:Int)
 rad0:InP rad 0 24
 kills:KillsP K S.length
 kl:K.length≤S.length
 poles:PolesP P
 pl:P.length≤S.length
 sm:∀s,s ∈ S→InP s.X 0 (15 * (i:Int))∧InP s.Y 0 (10 * (i:Int))
structure MkF (m:Nat) (o:List Seat×Int×List Int×List Pole):Prop where
 seats:SeatsP o.1
 n0:1≤o.1.length
 n1:o.1.length≤m
 rad:InP o.2.1 0 24
 kills:KillsP o.2.2.1 o.1.length
 kl:o.2.2.1.length≤m
 poles:PolesP o.2.2.2
 pl:o.2.2.2.length≤m
 sm:∀s,s ∈ o.1→InP s.X 0 1500∧InP s.Y 0 1000
theorem make_l0 (k:Nat) (l:List Int) (m:Nat) (hm:m≤100):∀(n:Nat) S rad K P row x (i:Nat),MkI S rad K P row x i→S.length≤m→m-S.length < n→∃o,law3_Make_l0 k l (m:Int) n S rad K P row x (i:Int)=some o∧MkF m o
 | 0,S,rad,K,P,row,x,i,_,_,h=>absurd h (by omega)
 | n+1,S,rad,K,P,row,x,i,hI,hS,hn=>by
  have hlen:=hI.len
  have hx0:=hI.x0
  have hx1:=hI.x1
  have hr0:=hI.r0
  have hr1:=hI.r1
  have hkl:=hI.kl
  have hpl:=hI.pl
  rw[law3_Make_l0]
  by_cases hc:i < l.length∧S.length < m
  ·rw[condD (by omega),bindS rfl,condD (by omega)]
   obtain⟨y,_,e2⟩:=some_get hc.1
   rw[bindS e2]
   have h108:∃o:Int×Int,(cond (decide (((IntKind.u64.wrap y).tmod 7)=0)) (some (wr (row+1),0)) (cond (decide (((IntKind.u64.wrap y).tmod 7)=1)) (some (row,wr ((wr (x+10))+5))) (some (row,wr (x+10)))))=some o∧((o.1=row+1∧o.2=0)∨(o.1=row∧x < o.2∧o.2≤x+15)):=by
    rw[wr_id (x:=row+1) (by omega) (by omega),wr_id (x:=x+10) (by omega) (by omega),wr_id (x:=x+10+5) (by omega) (by omega)]
    by_cases c1:(IntKind.u64.wrap y).tmod 7=0
    ·rw[condD c1];exact⟨_,rfl,.inl ⟨rfl,rfl⟩⟩
    rw[condN c1]
    by_cases c2:(IntKind.u64.wrap y).tmod 7=1
    ·rw[condD c2];exact⟨_,rfl,.inr ⟨rfl,by simp only;omega,by simp only;omega⟩⟩
    ·rw[condN c2];exact⟨_,rfl,.inr ⟨rfl,by simp only;omega,by simp only;omega⟩⟩
   obtain⟨o,e108,ho⟩:=h108
   rw[bindS e108]
   have h116:∃kd:Int,(cond (decide (((IntKind.u64.wrap ((IntKind.u64.wrap y).tdiv 7)).tmod 6)=0)) (some (1:Int)) (cond (decide (((IntKind.u64.wrap ((IntKind.u64.wrap y).tdiv 7)).tmod 6)=1)) (some 2) (cond (decide (((IntKind.u64.wrap ((IntKind.u64.wrap y).tdiv 7)).tmod 6)=2)) (some 2) (some 0))))=some kd∧InP kd 0 2:=by
    generalize (IntKind.u64.wrap ((IntKind.u64.wrap y).tdiv 7)).tmod 6=q
    by_cases c1:q=0
    ·rw[condD c1];exact⟨_,rfl,by omega⟩
    rw[condN c1]
    by_cases c2:q=1
    ·rw[condD c2];exact⟨_,rfl,by omega⟩
    rw[condN c2]
    by_cases c3:q=2
    ·rw[condD c3];exact⟨_,rfl,by omega⟩
    ·rw[condN c3];exact⟨_,rfl,by omega⟩
   obtain⟨kd,e116,hkd⟩:=h116
   have hrow:wr (10 * o.1)=10 * o.1:=wr_id (by omega) (by omega)
   have hl1:(S++[Seat.mk o.1 o.2 (10 * o.1) kd]).length=S.length+1:=by simp
   rw[bindS e116,hrow,gdD (by simp only[List.length_singleton];omega),hl1,show wr (((S.length+1:Nat):Int)-1)=(S.length:Int) by rw[wr_id (by omega) (by omega)];omega]
   have h125:∃K',(cond (decide (((IntKind.u64.wrap ((IntKind.u64.wrap y).tdiv 42)).tmod 9)=0)) (gd (decide (K.length+([(S.length:Int)]).length≤4294967296)) (some (K++[(S.length:Int)]))) (some K))=some K'∧KillsP K' ((S.length+1:Nat):Int)∧K'.length≤S.length+1:=by
    generalize (IntKind.u64.wrap ((IntKind.u64.wrap y).tdiv 42)).tmod 9=q
    by_cases c1:q=0
    ·rw[condD c1,gdD (by simp only[List.length_singleton];omega)]
     exact⟨_,rfl,hI.kills.snoc (by omega) (by omega),by simp;omega⟩
    ·rw[condN c1]
     exact⟨_,rfl,hI.kills.mono (by omega),by omega⟩
   obtain⟨K',e125,hK,hKl⟩:=h125
   rw[bindS e125]
   obtain⟨q0,q1⟩:=um ((IntKind.u64.wrap y).tdiv 500) 12 (by omega)
   have h132:∃P',(cond (decide (((IntKind.u64.wrap ((IntKind.u64.wrap y).tdiv 42)).tmod 11)=1)) (gd (decide (P.length+([Pole.mk o.2 (10 * o.1) (wr (1+(wr ((IntKind.u64.wrap ((IntKind.u64.wrap y).tdiv 500)).tmod 12))))]).length≤4294967296)) (some (P++[Pole.mk o.2 (10 * o.1) (wr (1+(wr ((IntKind.u64.wrap ((IntKind.u64.wrap y).tdiv 500)).tmod 12))))]))) (some P))=some P'∧PolesP P'∧P'.length≤S.length+1:=by
    generalize (IntKind.u64.wrap ((IntKind.u64.wrap y).tdiv 42)).tmod 11=q
    rw[wr_id (x:=(IntKind.u64.wrap ((IntKind.u64.wrap y).tdiv 500)).tmod 12) (by omega) (by omega),wr_id (x:=1+(IntKind.u64.wrap ((IntKind.u64.wrap y).tdiv 500)).tmod 12) (by omega) (by omega)]
    by_cases c1:q=1
    ·rw[condD c1,gdD (by simp only[List.length_singleton];omega)]
     exact⟨_,rfl,hI.poles.snoc ⟨by simp only;omega,by simp only;omega,by simp only;omega⟩,by simp;omega⟩
    ·rw[condN c1]
     exact⟨_,rfl,hI.poles,by omega⟩
   obtain⟨P',e132,hP,hPl⟩:=h132
   rw[bindS e132,wr_succ (by omega)]
   obtain⟨w0,w1⟩:=um ((IntKind.u64.wrap y).tdiv 300) 25 (by omega)
   have hN:∀rad',InP rad' 0 24→MkI (S++[Seat.mk o.1 o.2 (10 * o.1) kd]) rad' K' P' o.1 o.2 (i+1):=fun rad' hr=>by
    refine⟨by rw[hl1];omega,hI.seats.snoc ⟨by simp only;omega,by simp only;omega,by simp only;omega,hkd⟩ (fun r hr=>?_),fun r hr=>?_,by omega,by omega,by omega,by omega,hr,by rw[hl1];exact hK,by rw[hl1];exact hKl,hP,by rw[hl1];exact hPl,fun s hs=>?_⟩
    ·obtain⟨a,b⟩:=hI.last r hr
     show r.Row < o.1∨(r.Row=o.1∧r.X < o.2)
     omega
    ·rw[hl1] at hr
     rcases snoc_get hr with⟨h1,h2⟩ | ⟨_,rfl⟩
     ·omega
     ·exact⟨rfl,rfl⟩
    ·rcases List.mem_append.1 hs with h | h
     ·have:=hI.sm s h
      exact⟨by omega,by omega⟩
     ·rw[List.mem_singleton] at h
      subst h
      exact⟨by simp only;omega,by simp only;omega⟩
   have hrec:∀rad',InP rad' 0 24→∃o',law3_Make_l0 k l (m:Int) n (S++[Seat.mk o.1 o.2 (10 * o.1) kd]) rad' K' P' o.1 o.2 ((i+1:Nat):Int)=some o'∧MkF m o':=fun rad' hr =>
    make_l0 k l m hm n _ rad' K' P' o.1 o.2 (i+1) (hN rad' hr) (by rw[hl1];omega) (by rw[hl1];omega)
   generalize (IntKind.u64.wrap ((IntKind.u64.wrap y).tdiv 42)).tmod 5=q
   by_cases c1:q=3
   ·rw[condD c1,wr_id (x:=(IntKind.u64.wrap ((IntKind.u64.wrap y).tdiv 300)).tmod 25) (by omega) (by omega)]
    exact hrec _ (by omega)
   ·rw[condN c1]
    exact hrec _ hI.rad0
  ·have:(cond (decide ((i:Int) < (l.length:Int))) (some (decide ((S.length:Int) < (m:Int)))) (some false))=some false:=by
    by_cases c1:i < l.length
    ·rw[condD (by omega),decide_eq_false (by omega)]
    ·rw[condN (by omega)]
   rw[this,bindS rfl,condF rfl]
   exact⟨_,rfl,hI.seats,by simp only;omega,hS,hI.rad0,hI.kills,by simp only;omega,hI.poles,by simp only;omega,fun s hs=>by have:=hI.sm s hs;exact⟨by omega,by omega⟩⟩
structure MadeV (m:Nat) (v:Venue):Prop where
 may:MayV v
 n1:v.Seats.length≤m
 gap:v.Gap=10
 rad:InP v.Radius 0 24
 kl:v.Kills.length≤m
 pl:v.Poles.length≤m
 sm:∀s,s ∈ v.Seats→InP s.X 0 1500∧InP s.Y 0 1000
theorem law3_Make_eq (k:Nat) (l:List Int) (m:Nat) (h1:1≤m) (hm:m≤100) (hk:100≤k):∃v,law3_Make k l (m:Int)=some v∧MadeV m v:=by
 unfold law3_Make
 have hI:MkI [Seat.mk 0 0 0 0] 0 [] [] 0 0 0:=by
  refine⟨rfl,?_,?_,by omega,by omega,by omega,by omega,by omega,?_,by simp,?_,by simp,fun s hs=>by rw[List.mem_singleton] at hs;subst hs;exact⟨by simp only;omega,by simp only;omega⟩⟩
  ·intro j hj s hs
   have:j=0:=by simp at hj;omega
   subst this
   simp at hs
   subst hs
   exact⟨by decide,fun h=>absurd h (by omega)⟩
  ·intro r hr
   simp at hr
   subst hr
   exact⟨rfl,rfl⟩
  ·intro j hj
   simp at hj
  ·intro j hj
   simp at hj
 obtain⟨o,e,h⟩:=make_l0 k l m hm k _ _ _ _ _ _ 0 hI (by simpa using h1) (by simp;omega)
 have e':law3_Make_l0 k l (m:Int) k [Seat.mk 0 0 0 0] 0 [] [] 0 0 0=some o:=e
 rw[bindS e']
 have a1:=h.n1
 have a2:=h.kl
 have a3:=h.pl
 have a4:=h.rad
 exact⟨_,rfl,⟨h.seats,h.n0,by simp only;omega,by simp only;omega,by simp only;omega,h.kills,by simp only;omega,h.poles,by simp only;omega⟩,h.n1,rfl,h.rad,h.kl,h.pl,h.sm⟩
end Go.Px

set_option linter.unusedVariables false
set_option linter.unusedSimpArgs false
namespace Go.Px
open Go Go.Sh
theorem sq_le {d:Int} (h:InP d (-2097152) 2097152):0≤d * d∧d * d≤4398046511104:=by
 have:d * d=((d.natAbs * d.natAbs:Nat):Int):=(Int.natAbs_mul_self' d).symm
 have h2:d.natAbs * d.natAbs≤2097152 * 2097152:=Nat.mul_le_mul (by omega) (by omega)
 omega
def far (a b:Seat):Int:=if CoordP a.X∧CoordP a.Y∧CoordP b.X∧CoordP b.Y then (a.X-b.X) * (a.X-b.X)+(a.Y-b.Y) * (a.Y-b.Y) else 0
theorem far_wr {a b:Seat} (h:CoordP a.X∧CoordP a.Y∧CoordP b.X∧CoordP b.Y):wr ((wr ((wr (a.X-b.X)) * (wr (a.X-b.X))))+(wr ((wr (a.Y-b.Y)) * (wr (a.Y-b.Y)))))=far a b:=by
 unfold far
 rw[if_pos h]
 have h1:=sq_le (d:=a.X-b.X) (by omega)
 have h2:=sq_le (d:=a.Y-b.Y) (by omega)
 rw[wr_id (x:=a.X-b.X) (by omega) (by omega),wr_id (x:=a.Y-b.Y) (by omega) (by omega),wr_id (x:=(a.X-b.X) * (a.X-b.X)) (by omega) (by omega),wr_id (x:=(a.Y-b.Y) * (a.Y-b.Y)) (by omega) (by omega)]
 exact wr_id (by omega) (by omega)
theorem geom_Far_eq (k:Nat) (a b:Seat) (hk:3≤k):geom_Far k a b=some (far a b):=by
 obtain⟨n,rfl⟩:∃n,k=n+3:=⟨k-3,by omega⟩
 unfold geom_Far
 have i0:idx [a,b] 0=some a:=rfl
 have i1:idx [a,b] 1=some b:=rfl
 have w1:wr (0+1)=1:=by decide
 have w2:wr (1+1)=2:=by decide
 rw[geom_Far_l0,condD (by show(0:Int) < 2;omega),bindS i0,bindS (venue_Coord_eq _ _),bindS (venue_Coord_eq _ _)]
 by_cases h1:CoordP a.X
 ·rw[condNT h1]
  by_cases h2:CoordP a.Y
  ·rw[condNT h2,w1,geom_Far_l0,condD (by show(1:Int) < 2;omega),bindS i1,bindS (venue_Coord_eq _ _),bindS (venue_Coord_eq _ _)]
   by_cases h3:CoordP b.X
   ·rw[condNT h3]
    by_cases h4:CoordP b.Y
    ·rw[condNT h4,w2,geom_Far_l0,condN (by show ¬(2:Int) < 2;omega),bindS rfl,elim_go,far_wr ⟨h1,h2,h3,h4⟩]
    ·rw[condNF h4,bindS rfl,elim_rt,far,if_neg (fun h=>h4 h.2.2.2)]
   ·rw[condNF h3,bindS rfl,elim_rt,far,if_neg (fun h=>h3 h.2.2.1)]
  ·rw[condNF h2,bindS rfl,elim_rt,far,if_neg (fun h=>h2 h.2.1)]
 ·rw[condNF h1,bindS rfl,elim_rt,far,if_neg (fun h=>h1 h.1)]
def closeB (a b:Seat) (r:Int):Bool:=decide (far a b < wr (r * r))
theorem geom_Close_eq (k:Nat) (a b:Seat) (r:Int) (hk:3≤k):geom_Close k a b r=some (closeB a b r):=by
 unfold geom_Close
 rw[bindS (geom_Far_eq k a b hk)]
 rfl
def poleS (p:Pole):Seat:=Seat.mk 0 p.X p.Y 0
instance:Inhabited Seat:=⟨Seat.mk 0 0 0 0⟩
def poleB (v:Venue) (s j:Nat):Bool:=closeB (v.Seats.getD s default) (poleS (v.Poles.getD j default)) (v.Poles.getD j default).R
def killL (v:Venue) (s:Nat):List Int:=(if (s:Int) ∈ v.Kills then [-1] else [])++((List.range v.Poles.length).filter (poleB v s)).map (fun j:Nat=>(j:Int))
theorem getD_of {α:Type} {l:List α} {i:Nat} {s d : α} (h:l[i]?=some s):l.getD i d=s:=by rw[List.getD_eq_getElem?_getD,h];rfl
def deadB (v:Venue) (s:Nat):Bool:=decide ((killL v s).length=0)
def usL (v:Venue):List Bool:=(List.range v.Seats.length).map (deadB v)
structure Small (k:Nat) (v:Venue):Prop where
 hs:v.Seats.length < k
 hk:v.Kills.length < k
 hp:v.Poles.length < k
 b:k≤4294967290
 b3:3≤k
theorem sameInts_refl (k:Nat) (l:List Int) (hl:l.length < k) (hb:l.length≤4294967290):ref6_SameInts k l l=some true:=by
 unfold ref6_SameInts
 rw[condNT rfl]
 have h:=scan_go (f:=fun n i=>ref6_SameInts_l0 k l l n i) (len:=l.length) (good:=fun _=>True)
  (fun n i hi _=>by
   show ref6_SameInts_l0 k l l (n+1) (i:Int)=_
   obtain⟨y,e1,e2⟩:=some_get hi
   rw[ref6_SameInts_l0,condD (by omega),bindS e2,bindS e2,condNT rfl,wr_succ (by omega)])
  (fun n=>by show ref6_SameInts_l0 k l l (n+1) _=_;rw[ref6_SameInts_l0,condN (by omega)]) l.length k 0 (by omega) hl (fun _ _ _=>trivial)
 have h:ref6_SameInts_l0 k l l k 0=_:=h
 rw[bindS h,elim_go]
end Go.Px

set_option linter.unusedVariables false
set_option linter.unusedSimpArgs false
namespace Go.Px
open Go Go.Sh
end Go.Px

set_option linter.unusedVariables false
set_option linter.unusedSimpArgs false
namespace Go.Px
open Go Go.Sh
end Go.Px

set_option linter.unusedVariables false
set_option linter.unusedSimpArgs false
namespace Go.Px
open Go Go.Sh
structure Mk (M:List Bool) (Q:Nat→Prop):Prop where
 len:M.length=40
 get:∀i,i < 40→∃b,M[i]?=some b∧(b=true ↔ Q i)
theorem Mk.set {M:List Bool} {Q:Nat→Prop} (h:Mk M Q) {j:Nat} (hj:j < 40):Mk (M.set j true) (fun i=>Q i∨i=j):=by
 refine⟨by rw[List.length_set,h.len],fun i hi=>?_⟩
 by_cases e:j=i
 ·subst e
  exact⟨true,List.getElem?_set_self (by rw[h.len];exact hi),by simp⟩
 ·obtain⟨b,e1,e2⟩:=h.get i hi
  refine⟨b,by rw[List.getElem?_set_ne e,e1],?_⟩
  rw[e2]
  constructor
  ·exact .inl
  ·rintro (h | h)
   ·exact h
   ·omega
theorem Mk.congr {M:List Bool} {Q Q':Nat→Prop} (h:Mk M Q) (hq:∀i,i < 40→(Q i ↔ Q' i)):Mk M Q' :=
 ⟨h.len,fun i hi=>by obtain⟨b,e1,e2⟩:=h.get i hi;exact⟨b,e1,e2.trans (hq i hi)⟩⟩
theorem Mk.zero:Mk (List.replicate 40 false) (fun _=>False):=by
 refine⟨by simp,fun i hi=>⟨false,?_,by simp⟩⟩
 rw[List.getElem?_replicate,if_pos hi]
end Go.Px

set_option linter.unusedVariables false
set_option linter.unusedSimpArgs false
namespace Go.Px
open Go Go.Sh
def seatA (v:Venue) (s:Int):Seat:=v.Seats.getD s.toNat default
theorem seat_idx {v:Venue} {s:Int} (h0:0≤s) (h:s < v.Seats.length):idx v.Seats s=some (seatA v s):=by
 obtain⟨j,rfl⟩:=Int.eq_ofNat_of_zero_le h0
 obtain⟨t,e1,e2⟩:=some_get (l:=v.Seats) (i:=j) (by omega)
 rw[e2]
 unfold seatA
 rw[Int.toNat_natCast,getD_of e1]
structure Pre (p:Nat→Bool) (m r:Nat):Prop where
 le:r≤m
 all:∀j,j < r→p j=true
 stop:r < m→p r=false
theorem Pre.uniq {p:Nat→Bool} {m r r':Nat} (h:Pre p m r) (h':Pre p m r'):r=r':=by
 rcases Nat.lt_trichotomy r r' with hl | hl | hl
 ·have h1:=h'.all r hl
  have h2:=h.stop (by have:=h'.le;omega)
  rw[h1] at h2
  cases h2
 ·exact hl
 ·have h1:=h.all r' hl
  have h2:=h'.stop (by have:=h.le;omega)
  rw[h1] at h2
  cases h2
theorem Pre.cut {p:Nat→Bool} {m n r r':Nat} (h:Pre p m r) (h':Pre p n r') (hm:m≤n):r=min m r':=by
 refine h.uniq ⟨by omega,fun j hj=>h'.all j (by omega),fun hl=>?_⟩
 have:min m r'=r':=by omega
 rw[this] at hl ⊢
 exact h'.stop (by omega)
noncomputable def runN (v:Venue) (U:List Bool) (s:Int):Nat:=(ref6_long 4294967290 v U s).getD 0 |>.toNat
end Go.Px

set_option linter.unusedVariables false
set_option linter.unusedSimpArgs false
namespace Go.Px
open Go Go.Sh
end Go.Px

set_option linter.unusedVariables false
set_option linter.unusedSimpArgs false
namespace Go.Px
open Go Go.Sh
abbrev MayP (p:Party):Prop:=1≤p.Size∧p.Size≤8∧0≤p.Wheels∧p.Wheels≤2∧2 * p.Wheels≤p.Size
def kd (v:Venue) (s:Int) (m:Nat) (j:Int):Int:=if 0≤j∧j < m then (seatA v (s+j)).Kind else 0
def kF (v:Venue) (s:Int) (m:Nat):Nat→Nat→Int→Int→Ex (Int×Int) Bool
 | 0,_,w,c => .go (w,c)
 | d+1,j,w,c=>if kd v s m j=1 then (if ¬kd v s m ((j:Int)-1)=2∧¬kd v s m ((j:Int)+1)=2 then .rt false else kF v s m d (j+1) (w+1) c) else if kd v s m j=2 then kF v s m d (j+1) w (c+1) else kF v s m d (j+1) w c
def kindsB (v:Venue) (s:Int) (m:Nat) (want:Int):Bool:=match kF v s m m 0 0 0 with
 | .go (w,c)=>decide (w=want∧(want=0→c≤0))
 | .rt b=>b
noncomputable def placeB (v:Venue) (U:List Bool) (p:Party) (s:Int):Bool:=decide (MayP p∧p.Size≤runN v U s) && kindsB v s p.Size.toNat p.Wheels
/- the reference -/
/- apart -/
def ApP (v:Venue) (s:Int) (m:Nat) (t:Int) (n:Nat):Prop:=∀x,x < m→∀y,y < n→¬s+(x:Int)=t+(y:Int)∧closeB (seatA v (s+x)) (seatA v (t+y)) v.Radius=false
open Classical in
noncomputable def apB (v:Venue) (s:Int) (m:Nat) (t:Int) (n:Nat):Bool:=decide (ApP v s m t n)
end Go.Px

set_option linter.unusedVariables false
set_option linter.unusedSimpArgs false
namespace Go.Px
open Go Go.Sh
noncomputable def plB (v:Venue) (p:Party) (s:Int):Bool:=mayB v && placeB v (usL v) p s
noncomputable def aptB (v:Venue) (p:Party) (s:Int) (q:Party) (t:Int):Bool:=plB v p s && (plB v q t && apB v s p.Size.toNat t q.Size.toNat)
end Go.Px

set_option linter.unusedVariables false
set_option linter.unusedSimpArgs false
namespace Go.Px
open Go Go.Sh
theorem far_symm (a b:Seat):far a b=far b a:=by
 unfold far
 by_cases h:CoordP a.X∧CoordP a.Y∧CoordP b.X∧CoordP b.Y
 ·rw[if_pos h,if_pos ⟨h.2.2.1,h.2.2.2,h.1,h.2.1⟩,show b.X-a.X = -(a.X-b.X) by omega,show b.Y-a.Y = -(a.Y-b.Y) by omega,Int.neg_mul_neg,Int.neg_mul_neg]
 ·rw[if_neg h,if_neg (fun h'=>h ⟨h'.2.2.1,h'.2.2.2,h'.1,h'.2.1⟩)]
theorem closeB_symm (a b:Seat) (r:Int):closeB a b r=closeB b a r:=by unfold closeB;rw[far_symm]
/- venues alike in all but kills, poles and radius -/
end Go.Px

set_option linter.unusedVariables false
set_option linter.unusedSimpArgs false
namespace Go.Px
open Go Go.Sh
section
open Classical
noncomputable def dB (p:Prop):Bool:=decide p
theorem dB_iff {p:Prop} : dB p=true ↔ p:=by unfold dB;exact decide_eq_true_iff
theorem dB_T {p:Prop} (h:p):dB p=true:=dB_iff.2 h
theorem dB_F {p:Prop} (h:¬p):dB p=false:=by
 cases e:dB p
 ·rfl
 ·exact absurd (dB_iff.1 e) h
end
def aI {α:Type} [Inhabited α] (l:List α) (x:Int) : α:=l.getD x.toNat default
theorem idx_aI {α:Type} [Inhabited α] {l:List α} {x:Int} (h0:0≤x) (h:x < (l.length:Int)):idx l x=some (aI l x):=by
 refine idx_get h0 ?_
 unfold aI
 rw[List.getD_eq_getElem?_getD,List.getElem?_eq_getElem (by omega)]
 rfl
theorem aI_mem {α:Type} [Inhabited α] {l:List α} {x:Int} (h0:0≤x) (h:x < (l.length:Int)):aI l x ∈ l:=by
 unfold aI
 rw[List.getD_eq_getElem?_getD,List.getElem?_eq_getElem (by omega)]
 exact List.getElem_mem _
abbrev AllMay (L:List Party):Prop:=L.length≤512∧∀i:Nat,i < L.length→MayP (aI L i)
/- maps -/
def pmN (P:List Pin):Nat→List (Int×Int)
 | 0=>[]
 | i+1=>mset (pmN P i) (aI P i).Party (aI P i).First
def pinAt (P:List Pin) (x:Int):Option Int:=mget (pmN P P.length) x
def RiseP (P:List Pin):Prop:=∀i j:Nat,i < j→j < P.length→(aI P i).Party < (aI P j).Party
/- the halls' own words for one hall that may be -/
section
variable {k:Nat} {v:Venue}
end
/- pins -/
structure PinG (v:Venue) (L:List Party) (P:List Pin) (i:Nat):Prop where
 lo:0≤(aI P (i:Int)).Party
 hi:(aI P (i:Int)).Party < L.length
 rise:0 < i→(aI P ((i-1:Nat):Int)).Party < (aI P (i:Int)).Party
 pl:plB v (aI L (aI P (i:Int)).Party) (aI P (i:Int)).First=true
 ap:∀j:Nat,j < i→aptB v (aI L (aI P (i:Int)).Party) (aI P (i:Int)).First (aI L (aI P (j:Int)).Party) (aI P (j:Int)).First=true
abbrev PinOK (v:Venue) (L:List Party) (P:List Pin):Prop:=∀i,i < P.length→PinG v L P i
theorem PinOK.rise {v:Venue} {L:List Party} {P:List Pin} (h:PinOK v L P):RiseP P:=by
 intro i j hij hj
 obtain⟨d,rfl⟩:∃d,j=i+1+d:=⟨j-(i+1),by omega⟩
 clear hij
 induction d with
 | zero =>
  have:=(h (i+1) hj).rise (by omega)
  exact this
 | succ d ih =>
  have:=(h (i+1+(d+1)) hj).rise (by omega)
  rw[show i+1+(d+1)-1=i+1+d by omega] at this
  have:=ih (by omega)
  omega
section
variable {k:Nat} {v:Venue} {L:List Party} {P:List Pin}
abbrev InOK (v:Venue) (L:List Party) (P:List Pin):Prop:=MayV v∧PinOK v L P∧AllMay L
/- plans -/
structure OkAt (v:Venue) (L:List Party) (P:List Pin) (r:List Int) (i:Nat):Prop where
 pin:∀f,pinAt P (i:Int)=some f→aI r (i:Int)=f
 pl:¬aI r (i:Int) = -1→plB v (aI L (i:Int)) (aI r (i:Int))=true
 ap:¬aI r (i:Int) = -1→∀j:Nat,j < i→¬aI r (j:Int) = -1→aptB v (aI L (i:Int)) (aI r (i:Int)) (aI L (j:Int)) (aI r (j:Int))=true
structure PlanP (v:Venue) (L:List Party) (P:List Pin) (r:List Int):Prop where
 inn:InOK v L P
 len:r.length=L.length
 at_:∀i,i < r.length→OkAt v L P r i
end
end Go.Px

set_option linter.unusedVariables false
set_option linter.unusedSimpArgs false
namespace Go.Px
open Go Go.Sh
theorem aI_set {α:Type} [Inhabited α] {l:List α} {i j:Nat} {x : α} (h:i < l.length):aI (l.set i x) (j:Int)=if j=i then x else aI l (j:Int):=by
 unfold aI
 rw[Int.toNat_natCast,List.getD_eq_getElem?_getD,List.getD_eq_getElem?_getD]
 split
 ·rename_i hj
  rw[hj,List.getElem?_set_self h]
  rfl
 ·rename_i hj
  rw[List.getElem?_set_ne (fun e=>hj e.symm)]
theorem aI_ext {α:Type} [Inhabited α] {l m:List α} (hl:l.length=m.length) (h:∀i:Nat,i < l.length→aI l (i:Int)=aI m (i:Int)):l=m:=by
 refine List.ext_getElem hl fun i h1 h2=>?_
 have:=h i h1
 unfold aI at this
 rw[Int.toNat_natCast,List.getD_eq_getElem?_getD,List.getD_eq_getElem?_getD,List.getElem?_eq_getElem h1,List.getElem?_eq_getElem h2] at this
 exact this
structure Prob (v:Venue) (L:List Party):Prop where
 may:MayV v
 n1:v.Seats.length≤9
 kl:v.Kills.length≤9
 pl:v.Poles.length≤9
 rad:InP v.Radius 0 24
 l4:L.length≤4
 ps:∀i:Nat,i < L.length→MayP (aI L (i:Int))∧(aI L (i:Int)).Size≤3
theorem Prob.all {v:Venue} {L:List Party} (h:Prob v L):AllMay L:=⟨by have:=h.l4;omega,fun i hi=>(h.ps i hi).1⟩
theorem Prob.inn {v:Venue} {L:List Party} (h:Prob v L) {P:List Pin} (hP:PinOK v L P):InOK v L P:=⟨h.may,hP,h.all⟩
/- all plans -/
theorem filter_yes {α:Type} (l:List α):l.filter (fun _=>true)=l:=List.filter_eq_self.2 (fun _ _=>rfl)
section
variable {k:Nat} {v:Venue} {L:List Party}
/- persons -/
end
end Go.Px

set_option linter.unusedVariables false
set_option linter.unusedSimpArgs false
namespace Go.Px
open Go Go.Sh
theorem law6_told_eq:law6_told 2000=some true:=by decide +kernel
section
variable {k:Nat} {v:Venue}
noncomputable def clashB (v:Venue) (a b:Int):Bool:=dB ((0≤a∧a < v.Seats.length)∧(0≤b∧b < v.Seats.length)∧¬a=b∧MayV v) && closeB (seatA v a) (seatA v b) v.Radius
theorem clashB_F {a b:Int} (h:¬((0≤a∧a < v.Seats.length)∧(0≤b∧b < v.Seats.length)∧¬a=b∧MayV v)):clashB v a b=false:=by
 unfold clashB
 rw[dB_F h,Bool.false_and]
theorem clashB_T {a b:Int} (h:(0≤a∧a < v.Seats.length)∧(0≤b∧b < v.Seats.length)∧¬a=b∧MayV v):clashB v a b=closeB (seatA v a) (seatA v b) v.Radius:=by
 unfold clashB
 rw[dB_T h,Bool.true_and]
theorem clashB_symm {a b:Int} (h:clashB v a b=true):clashB v b a=true:=by
 unfold clashB at h ⊢
 rw[Bool.and_eq_true] at h ⊢
 obtain⟨h1,h2⟩:=h
 have h1:=dB_iff.1 h1
 exact⟨dB_T ⟨h1.2.1,h1.1,fun e=>h1.2.2.1 e.symm,h1.2.2.2⟩,by rw[closeB_symm];exact h2⟩
theorem geom_side_eq (a:Int):geom_side k v a=some (decide (0≤a∧a < v.Seats.length)):=by
 unfold geom_side
 by_cases h1:a < 0
 ·rw[condD h1,decide_eq_false (by omega)]
 ·rw[condN h1]
  by_cases h2:(v.Seats.length:Int)≤a
  ·rw[condD h2,decide_eq_false (by omega)]
  ·rw[condN h2,decide_eq_true (by omega)]
theorem geom_Clash_eq (hv:Small k v) (a b:Int):geom_Clash k v a b=some (clashB v a b):=by
 have hb:=hv.b
 unfold geom_Clash
 rw[bindS (geom_side_eq a),bindS (geom_side_eq b)]
 by_cases h1:0≤a∧a < v.Seats.length
 ·rw[condD h1]
  by_cases h2:0≤b∧b < v.Seats.length
  ·rw[condD h2]
   by_cases h3:a=b
   ·rw[condNT h3,clashB_F (fun h=>h.2.2.1 h3)]
   ·rw[condNF h3,bindS (venue_May_eq k v hv.hs hv.hk hv.hp (by omega))]
    cases hm:mayB v
    ·rw[cond_false,clashB_F (fun h=>by rw[mayB_iff.2 h.2.2.2] at hm;cases hm)]
    ·rw[cond_true,bindS (seat_idx h1.1 h1.2),bindS (seat_idx h2.1 h2.2),bindS (geom_Close_eq _ _ _ _ hv.b3),clashB_T ⟨h1,h2,h3,mayB_iff.1 hm⟩]
  ·rw[condN h2,clashB_F (fun h=>h2 h.2.1)]
 ·rw[condN h1,clashB_F (fun h=>h1 h.1)]
noncomputable def rowG (v:Venue) (a:Nat):List Int:=((List.range v.Seats.length).filter (fun b:Nat=>clashB v (a:Int) (b:Int))).map (fun j:Nat=>(j:Int))
noncomputable def graphL (v:Venue):List (List Int):=(List.range v.Seats.length).map (rowG v)
theorem graphL_len:(graphL v).length=v.Seats.length:=by unfold graphL;simp
theorem graphL_at {i:Nat} (h:i < v.Seats.length):aI (graphL v) (i:Int)=rowG v i:=by
 unfold graphL aI
 rw[Int.toNat_natCast,List.getD_eq_getElem?_getD,List.getElem?_map,List.getElem?_range h]
 rfl
theorem rowG_len {a:Nat} : (rowG v a).length≤v.Seats.length:=by
 unfold rowG
 rw[List.length_map]
 have:=List.length_filter_le (fun b:Nat=>clashB v (a:Int) (b:Int)) (List.range v.Seats.length)
 rw[List.length_range] at this
 exact this
theorem rowG_mem {a:Nat} {x:Int} (h:x ∈ rowG v a):0≤x∧x < v.Seats.length∧clashB v (a:Int) x=true:=by
 unfold rowG at h
 obtain⟨j,h2,e⟩:=List.mem_map.1 h
 rw[List.mem_filter,List.mem_range] at h2
 subst e
 exact⟨by omega,by omega,h2.2⟩
theorem graph_l1 (hv:Small k v) (hM:MayV v) {a:Nat} (ha:a < v.Seats.length):geom_Graph_l1 k v (a:Int) (seatA v (a:Int)) k [] 0=some (rowG v a):=by
 have hb:=hv.b
 have hs:=hv.hs
 have h:=gather0 (f:=fun n w i=>geom_Graph_l1 k v (a:Int) (seatA v (a:Int)) n w i) (len:=v.Seats.length) (c:=0) (fun b:Nat=>clashB v (a:Int) (b:Int)) (fun j:Nat=>(j:Int))
  (fun n i w hi hw=>by
   show geom_Graph_l1 k v (a:Int) (seatA v (a:Int)) (n+1) w (i:Int)=geom_Graph_l1 k v (a:Int) (seatA v (a:Int)) n _ _
   rw[geom_Graph_l1,condD (by omega),bindS (seat_idx (by omega) (by omega)),bindS (geom_Close_eq _ _ _ _ hv.b3),wr_succ (by omega)]
   by_cases h3:(a:Int)=(i:Int)
   ·rw[condNT h3,bindS rfl,cond_false,clashB_F (fun h=>h.2.2.1 h3)]
    rfl
   ·rw[condNF h3,bindS rfl,clashB_T ⟨⟨by omega,by omega⟩,⟨by omega,by omega⟩,h3,hM⟩]
    cases closeB (seatA v (a:Int)) (seatA v (i:Int)) v.Radius
    ·rfl
    ·rw[cond_true,gdD (by simp only[List.length_singleton];omega)]
     rfl)
  (fun n w=>by show geom_Graph_l1 k v (a:Int) (seatA v (a:Int)) (n+1) w _=_;rw[geom_Graph_l1,condN (by omega)])
  hs [] (by simp)
 exact h
theorem geom_Graph_eq (hv:Small k v):geom_Graph k v=some (if dB (MayV v)=true then graphL v else []):=by
 have hb:=hv.b
 have hs:=hv.hs
 unfold geom_Graph
 rw[bindS (venue_May_eq k v hv.hs hv.hk hv.hp (by omega))]
 cases hm:mayB v
 ·rw[cNF,dB_F (fun h=>by rw[mayB_iff.2 h] at hm;cases hm),if_neg (by simp)]
 ·have hM:=mayB_iff.1 hm
  have e:=gather0 (f:=fun n w i=>geom_Graph_l0 k v n w i) (len:=v.Seats.length) (c:=0) (fun _=>true) (fun a:Nat=>rowG v a)
   (fun n i w hi hw=>by
    show geom_Graph_l0 k v (n+1) w (i:Int)=geom_Graph_l0 k v n _ _
    rw[geom_Graph_l0,condD (by omega),bindS (seat_idx (by omega) (by omega)),bindS (graph_l1 hv hM hi),wr_succ (by omega),if_pos rfl])
   (fun n w=>by show geom_Graph_l0 k v (n+1) w _=_;rw[geom_Graph_l0,condN (by omega)])
   hs [] (by simp)
  have e:geom_Graph_l0 k v k [] 0=_:=e
  rw[cNT,gdD (by omega),bindS e,dB_T hM,if_pos rfl,filter_yes,List.nil_append]
  rfl
end
end Go.Px

set_option linter.unusedVariables false
set_option linter.unusedSimpArgs false
namespace Go.Px
open Go Go.Sh
section
variable {v u:Venue} {x y r:Int}
def mvS (x y:Int) (s:Seat):Seat:=Seat.mk s.Row (s.X+x) (s.Y-y) s.Kind
def mvI (x y:Int) (l:List Seat) (i:Nat):List Seat:=(List.range l.length).map (fun j:Nat=>if j < i then mvS x y (aI l (j:Int)) else aI l (j:Int))
theorem mvI_len {l:List Seat} {i:Nat} : (mvI x y l i).length=l.length:=by unfold mvI;simp
theorem mvI_at {l:List Seat} {i j:Nat} (h:j < l.length):aI (mvI x y l i) (j:Int)=if j < i then mvS x y (aI l (j:Int)) else aI l (j:Int):=by
 show List.getD ((List.range l.length).map _) (Int.toNat (j:Int)) default=_
 rw[Int.toNat_natCast,List.getD_eq_getElem?_getD,List.getElem?_map,List.getElem?_range h]
 rfl
theorem moved_l0' {a1 a2:Int} (hx:wr ((IntKind.u64.wrap a1).tmod 1000)=x) (hy:wr ((IntKind.u64.wrap a2).tmod 1000)=y) (hx0:InP x 0 999) (hy0:InP y 0 999) {l:List Seat} (hl:l.length≤1000) (hsm:∀s,s ∈ l→InP s.X 0 1500∧InP s.Y 0 1000):∀(d n i:Nat),i+d=l.length→d < n→law6_GeomMoved_l0 2000 a1 a2 n (mvI x y l i) (i:Int)=some (mvI x y l l.length)
 | d,0,i,_,h=>absurd h (by omega)
 | 0,n+1,i,hi,_=>by
  have hm:=mvI_len (x:=x) (y:=y) (l:=l) (i:=i)
  rw[law6_GeomMoved_l0,condN (by omega),show i=l.length by omega]
 | d+1,n+1,i,hi,hd=>by
  have hm:=mvI_len (x:=x) (y:=y) (l:=l) (i:=i)
  have he:idx (mvI x y l i) (i:Int)=some (aI l (i:Int)):=by
   rw[idx_aI (by omega) (by omega),mvI_at (by omega),if_neg (by omega)]
  have hs:=hsm (aI l (i:Int)) (aI_mem (by omega) (by omega))
  have he2:∀s,idx ((mvI x y l i).set i s) (i:Int)=some s:=fun s=>by
   rw[idx_aI (by omega) (by rw[List.length_set];omega),aI_set (by omega),if_pos rfl]
  rw[law6_GeomMoved_l0,condD (by omega),bindS he,bindS he,bindS he,Int.toNat_natCast,bindS (he2 _),hx,hy,wr_id (x:=(aI l (i:Int)).X+x) (by omega) (by omega),wr_id (x:=(aI l (i:Int)).Y-y) (by omega) (by omega),wr_succ (by omega)]
  have e:((mvI x y l i).set i (Seat.mk (aI l (i:Int)).Row ((aI l (i:Int)).X+x) (aI l (i:Int)).Y (aI l (i:Int)).Kind)).set i (Seat.mk (aI l (i:Int)).Row ((aI l (i:Int)).X+x) ((aI l (i:Int)).Y-y) (aI l (i:Int)).Kind)=mvI x y l (i+1):=by
   refine aI_ext (by rw[List.length_set,List.length_set,hm,mvI_len]) fun j hj=>?_
   rw[List.length_set,List.length_set,hm] at hj
   rw[aI_set (by rw[List.length_set];omega),mvI_at hj]
   by_cases h:j=i
   ·rw[if_pos h,if_pos (by omega),h]
    rfl
   ·rw[if_neg h,aI_set (by omega),if_neg h,mvI_at hj]
    by_cases h2:j < i
    ·rw[if_pos h2,if_pos (by omega)]
    ·rw[if_neg h2,if_neg (by omega)]
  dsimp only
  rw[e]
  exact moved_l0' hx hy hx0 hy0 hl hsm d n (i+1) (by omega) (by omega)
theorem seatsP_at {l:List Seat} (h:SeatsP l) {i:Nat} (hi:i < l.length):SeatP (aI l (i:Int))∧(0 < i→LessP (aI l ((i-1:Nat):Int)) (aI l (i:Int))):=by
 have e:∀j:Nat,j < l.length→l[j]?=some (aI l (j:Int)):=fun j hj=>by
  unfold aI
  rw[Int.toNat_natCast,List.getD_eq_getElem?_getD,List.getElem?_eq_getElem hj]
  rfl
 have h1:=h i hi _ (e i hi)
 exact⟨h1.1,fun h0=>h1.2 h0 _ (e (i-1) (by omega))⟩
theorem seatsP_of {l:List Seat} (h:∀i:Nat,i < l.length→SeatP (aI l (i:Int))∧(0 < i→LessP (aI l ((i-1:Nat):Int)) (aI l (i:Int)))):SeatsP l:=by
 have e:∀(j:Nat) s,l[j]?=some s→aI l (j:Int)=s:=fun j s hs=>by
  unfold aI
  rw[Int.toNat_natCast,List.getD_eq_getElem?_getD,hs]
  rfl
 intro i hi s hs
 have h1:=h i hi
 rw[e i s hs] at h1
 exact⟨h1.1,fun h0 r hr=>by have:=h1.2 h0;rwa [e (i-1) r hr] at this⟩
theorem mv_may (hM:MayV v) (hsm:∀s,s ∈ v.Seats→InP s.X 0 1500∧InP s.Y 0 1000) (hx0:InP x 0 999) (hy0:InP y 0 999):MayV (Venue.mk (mvI x y v.Seats v.Seats.length) v.Gap v.Radius v.Kills v.Poles):=by
 have hl:=mvI_len (x:=x) (y:=y) (l:=v.Seats) (i:=v.Seats.length)
 refine⟨seatsP_of fun i hi=>?_,by rw[hl];exact hM.n0,by rw[hl];exact hM.n1,hM.gap,hM.radius,by show KillsP v.Kills (((mvI x y v.Seats v.Seats.length).length:Nat):Int);rw[hl];exact hM.kills,hM.k1,hM.poles,hM.p1⟩
 have hi:i < (mvI x y v.Seats v.Seats.length).length:=hi
 rw[hl] at hi
 have h1:=seatsP_at hM.seats hi
 have h2:=hsm (aI v.Seats (i:Int)) (aI_mem (by omega) (by omega))
 show SeatP (aI (mvI x y v.Seats v.Seats.length) (i:Int))∧(0 < i→LessP (aI (mvI x y v.Seats v.Seats.length) ((i-1:Nat):Int)) (aI (mvI x y v.Seats v.Seats.length) (i:Int)))
 rw[mvI_at hi,if_pos hi]
 refine⟨⟨h1.1.1,⟨by show _≤(aI v.Seats (i:Int)).X+x;omega,by show(aI v.Seats (i:Int)).X+x≤_;omega⟩,⟨by show _≤(aI v.Seats (i:Int)).Y-y;omega,by show(aI v.Seats (i:Int)).Y-y≤_;omega⟩,h1.1.2.2.2⟩,fun h0=>?_⟩
 rw[mvI_at (by omega),if_pos (by omega)]
 rcases h1.2 h0 with h | ⟨h,h'⟩
 ·exact .inl h
 ·exact .inr ⟨h,by show(aI v.Seats ((i-1:Nat):Int)).X+x < (aI v.Seats (i:Int)).X+x;omega⟩
theorem mv_clash (hM:MayV v) (hsm:∀s,s ∈ v.Seats→InP s.X 0 1500∧InP s.Y 0 1000) (hx0:InP x 0 999) (hy0:InP y 0 999) (a b:Int):clashB (Venue.mk (mvI x y v.Seats v.Seats.length) v.Gap v.Radius v.Kills v.Poles) a b=clashB v a b:=by
 have hl:=mvI_len (x:=x) (y:=y) (l:=v.Seats) (i:=v.Seats.length)
 have hM2:=mv_may hM hsm hx0 hy0
 by_cases h:(0≤a∧a < v.Seats.length)∧(0≤b∧b < v.Seats.length)∧¬a=b
 ·obtain⟨h1,h2,h3⟩:=h
  rw[clashB_T ⟨h1,h2,h3,hM⟩,clashB_T ⟨⟨h1.1,by show a < (((mvI x y v.Seats v.Seats.length).length:Nat):Int);rw[hl];exact h1.2⟩,⟨h2.1,by show b < (((mvI x y v.Seats v.Seats.length).length:Nat):Int);rw[hl];exact h2.2⟩,h3,hM2⟩]
  obtain⟨i,rfl⟩:=Int.eq_ofNat_of_zero_le h1.1
  obtain⟨j,rfl⟩:=Int.eq_ofNat_of_zero_le h2.1
  have hi:i < v.Seats.length:=by omega
  have hj:j < v.Seats.length:=by omega
  have e1:seatA (Venue.mk (mvI x y v.Seats v.Seats.length) v.Gap v.Radius v.Kills v.Poles) (i:Int)=mvS x y (aI v.Seats (i:Int)):=by
   show aI (mvI x y v.Seats v.Seats.length) (i:Int)=_
   rw[mvI_at hi,if_pos hi]
  have e2:seatA (Venue.mk (mvI x y v.Seats v.Seats.length) v.Gap v.Radius v.Kills v.Poles) (j:Int)=mvS x y (aI v.Seats (j:Int)):=by
   show aI (mvI x y v.Seats v.Seats.length) (j:Int)=_
   rw[mvI_at hj,if_pos hj]
  rw[e1,e2]
  show closeB _ _ v.Radius=closeB (aI v.Seats (i:Int)) (aI v.Seats (j:Int)) v.Radius
  have s1:=hsm (aI v.Seats (i:Int)) (aI_mem (by omega) (by omega))
  have s2:=hsm (aI v.Seats (j:Int)) (aI_mem (by omega) (by omega))
  generalize aI v.Seats (i:Int)=p at s1
  generalize aI v.Seats (j:Int)=q at s2
  unfold closeB far mvS
  dsimp only
  rw[if_pos ⟨⟨by omega,by omega⟩,⟨by omega,by omega⟩,⟨by omega,by omega⟩,⟨by omega,by omega⟩⟩,if_pos ⟨⟨by omega,by omega⟩,⟨by omega,by omega⟩,⟨by omega,by omega⟩,⟨by omega,by omega⟩⟩,show p.X+x-(q.X+x)=p.X-q.X by omega,show p.Y-y-(q.Y-y)=p.Y-q.Y by omega]
 ·rw[clashB_F (v:=v) (fun h'=>h ⟨h'.1,h'.2.1,h'.2.2.1⟩),clashB_F (fun h'=>h ⟨⟨h'.1.1,by have:=h'.1.2;have h2:a < (((mvI x y v.Seats v.Seats.length).length:Nat):Int):=this;rw[hl] at h2;exact h2⟩,⟨h'.2.1.1,by have:=h'.2.1.2;have h2:b < (((mvI x y v.Seats v.Seats.length).length:Nat):Int):=this;rw[hl] at h2;exact h2⟩,h'.2.2.1⟩)]
theorem wide_may (hM:MayV v) (hr:InP r 0 1048576):MayV (Venue.mk v.Seats v.Gap r v.Kills v.Poles):=⟨hM.seats,hM.n0,hM.n1,hM.gap,hr,hM.kills,hM.k1,hM.poles,hM.p1⟩
theorem wide_clash (hM:MayV v) (hr:InP r 0 1048576) (hle:v.Radius≤r) (a b:Int) (h:clashB v a b=true):clashB (Venue.mk v.Seats v.Gap r v.Kills v.Poles) a b=true:=by
 have hR:=hM.radius
 unfold clashB at h ⊢
 rw[Bool.and_eq_true] at h ⊢
 have h1:=dB_iff.1 h.1
 refine⟨dB_T ⟨h1.1,h1.2.1,h1.2.2.1,wide_may hM hr⟩,?_⟩
 have h2:=of_decide_eq_true h.2
 have e1:v.Radius * v.Radius≤r * r:=Int.mul_le_mul hle hle (by omega) (by omega)
 have e2:r * r≤1048576 * 1048576:=Int.mul_le_mul hr.2 hr.2 (by omega) (by omega)
 have e3:0≤v.Radius * v.Radius:=Int.mul_nonneg (by omega) (by omega)
 rw[wr_id (by omega) (by omega)] at h2
 unfold closeB
 show decide (far (seatA v a) (seatA v b) < wr (r * r))=true
 rw[wr_id (by omega) (by omega)]
 exact decide_eq_true (by omega)
theorem gmoved_l4 (hv:Small 2000 v) {w:Venue} (hw:Small 2000 w) {a3:Int} (hwv:Venue.mk v.Seats v.Gap (wr (v.Radius+(wr ((IntKind.u64.wrap a3).tmod 50)))) v.Kills v.Poles=w) (hcl:∀a b,clashB v a b=true→clashB w a b=true) {i:Nat} (hi:i < v.Seats.length):∀(d n k:Nat),k+d=(rowG v i).length→d < n→law6_GeomMoved_l4 2000 a3 v (graphL v) (i:Int) n (k:Int)=some (.go ())
 | d,0,k,_,h=>absurd h (by omega)
 | 0,n+1,k,hk,_=>by
  have hl:=graphL_len (v:=v)
  rw[law6_GeomMoved_l4,bindS (idx_aI (by omega) (by omega)),graphL_at hi,condN (by omega)]
 | d+1,n+1,k,hk,hd=>by
  have hl:=graphL_len (v:=v)
  have hs:=hv.hs
  have hr:=rowG_len (v:=v) (a:=i)
  obtain⟨m1,m2,m3⟩:=rowG_mem (aI_mem (l:=rowG v i) (x:=(k:Int)) (by omega) (by omega))
  rw[law6_GeomMoved_l4,bindS (idx_aI (by omega) (by omega)),graphL_at hi,condD (by omega),bindS (idx_aI (by omega) (by omega)),graphL_at hi,bindS (idx_aI (by omega) (by omega)),condN (by omega),condN (by omega),bindS (geom_Clash_eq hv _ _),clashB_symm m3,cNT,hwv,bindS (geom_Clash_eq hw _ _),hcl _ _ m3,cNT,wr_succ (by omega)]
  exact gmoved_l4 hv hw hwv hcl hi d n (k+1) (by omega) (by omega)
theorem rowG_mono {w:Venue} (hl:w.Seats.length=v.Seats.length) (hcl:∀a b,clashB v a b=true→clashB w a b=true) (i:Nat):(rowG v i).length≤(rowG w i).length:=by
 unfold rowG
 rw[List.length_map,List.length_map,hl]
 have e:(List.range v.Seats.length).filter (fun b:Nat=>clashB v (i:Int) (b:Int))=((List.range v.Seats.length).filter (fun b:Nat=>clashB w (i:Int) (b:Int))).filter (fun b:Nat=>clashB v (i:Int) (b:Int)):=by
  rw[List.filter_filter]
  refine List.filter_congr fun s _=>?_
  cases h:clashB v (i:Int) (s:Int)
  ·rfl
  ·rw[hcl _ _ h];rfl
 rw[e]
 exact List.length_filter_le _ _
theorem gmoved_l3 (hv:Small 2000 v) {u w:Venue} (hw:Small 2000 w) {a3:Int} (hwv:Venue.mk v.Seats v.Gap (wr (v.Radius+(wr ((IntKind.u64.wrap a3).tmod 50)))) v.Kills v.Poles=w) (hcl:∀a b,clashB v a b=true→clashB w a b=true) (hul:u.Seats.length=v.Seats.length) (hwl:w.Seats.length=v.Seats.length) (hu:∀i,rowG u i=rowG v i):∀(d n i:Nat),i+d=v.Seats.length→d < n→law6_GeomMoved_l3 2000 a3 v (graphL v) (graphL u) (graphL w) n (i:Int)=some (.go ())
 | d,0,i,_,h=>absurd h (by omega)
 | 0,n+1,i,hi,_=>by
  have hl:=graphL_len (v:=v)
  rw[law6_GeomMoved_l3,condN (by omega)]
 | d+1,n+1,i,hi,hd=>by
  have hl:=graphL_len (v:=v)
  have hlu:=graphL_len (v:=u)
  have hlw:=graphL_len (v:=w)
  have hs:=hv.hs
  have hr:=rowG_len (v:=v) (a:=i)
  have hm:=rowG_mono hwl hcl i
  have e4:=gmoved_l4 hv hw hwv hcl (i:=i) (by omega) (rowG v i).length 2000 0 (by omega) (by omega)
  have e4:law6_GeomMoved_l4 2000 a3 v (graphL v) (i:Int) 2000 0=some (.go ()):=e4
  have eo:(Option.bind (idx (graphL v) (i:Int)) fun y262=>Option.bind (idx (graphL u) (i:Int)) fun y264=>Option.bind (ref6_SameInts 2000 y262 y264) fun r266=>cond (!r266) (some true) (Option.bind (idx (graphL w) (i:Int)) fun y269=>Option.bind (idx (graphL v) (i:Int)) fun y271=>some (decide ((y269.length:Int) < (y271.length:Int)))))=some false:=by
   rw[bindS (idx_aI (by omega) (by omega)),bindS (idx_aI (by omega) (by omega)),bindS (idx_aI (by omega) (by omega)),bindS (idx_aI (by omega) (by omega)),graphL_at (by omega),graphL_at (by omega),graphL_at (by omega),hu i,bindS (sameInts_refl _ _ (by omega) (by omega)),cNT,decide_eq_false (by omega)]
  rw[law6_GeomMoved_l3,condD (by omega),bindS eo,cond_false,bindS e4,elim_go,wr_succ (by omega)]
  exact gmoved_l3 hv hw hwv hcl hul hwl hu d n (i+1) (by omega) (by omega)
theorem GeomMoved_true (a0:List Int) (h0:okLI a0) (a1:Int) (h1:okI a1) (a2:Int) (h2:okI a2) (a3:Int) (h3:okI a3):∃k,law6_GeomMoved k a0 a1 a2 a3=some true:=by
 refine⟨2000,?_⟩
 obtain⟨v,e,hv'⟩:=law3_Make_eq 2000 a0 20 (by omega) (by omega) (by omega)
 have e:law3_Make 2000 a0 20=some v:=e
 have hM:=hv'.may
 have hn0:=hM.n0
 have hn1:=hv'.n1
 have hkl:=hv'.kl
 have hpl:=hv'.pl
 have hrd:=hv'.rad
 have hsm:=hv'.sm
 have hv:Small 2000 v:=⟨by omega,by omega,by omega,by omega,by omega⟩
 obtain⟨x0,x1⟩:=um a1 1000 (by omega)
 obtain⟨y0,y1⟩:=um a2 1000 (by omega)
 obtain⟨z0,z1⟩:=um a3 50 (by omega)
 have hx:wr ((IntKind.u64.wrap a1).tmod 1000)=(IntKind.u64.wrap a1).tmod 1000:=wr_id (by omega) (by omega)
 have hy:wr ((IntKind.u64.wrap a2).tmod 1000)=(IntKind.u64.wrap a2).tmod 1000:=wr_id (by omega) (by omega)
 have hz:wr (v.Radius+(wr ((IntKind.u64.wrap a3).tmod 50)))=v.Radius+(IntKind.u64.wrap a3).tmod 50:=by
  rw[wr_id (x:=(IntKind.u64.wrap a3).tmod 50) (by omega) (by omega),wr_id (by omega) (by omega)]
 have hx0:InP ((IntKind.u64.wrap a1).tmod 1000) 0 999:=⟨by omega,by omega⟩
 have hy0:InP ((IntKind.u64.wrap a2).tmod 1000) 0 999:=⟨by omega,by omega⟩
 have hi0:mvI ((IntKind.u64.wrap a1).tmod 1000) ((IntKind.u64.wrap a2).tmod 1000) v.Seats 0=v.Seats:=aI_ext mvI_len fun j hj=>by
  rw[mvI_len] at hj
  rw[mvI_at hj,if_neg (by omega)]
 have el:=moved_l0' (a1:=a1) (a2:=a2) hx hy hx0 hy0 (l:=v.Seats) (by omega) hsm v.Seats.length 2000 0 (by omega) (by omega)
 rw[hi0] at el
 have el:law6_GeomMoved_l0 2000 a1 a2 2000 v.Seats 0=_:=el
 have hul:=mvI_len (x:=(IntKind.u64.wrap a1).tmod 1000) (y:=(IntKind.u64.wrap a2).tmod 1000) (l:=v.Seats) (i:=v.Seats.length)
 have hMu:=mv_may hM hsm hx0 hy0
 have hcu:=mv_clash hM hsm hx0 hy0
 generalize mvI ((IntKind.u64.wrap a1).tmod 1000) ((IntKind.u64.wrap a2).tmod 1000) v.Seats v.Seats.length=us at el hul hMu hcu
 have hru:InP (v.Radius+(IntKind.u64.wrap a3).tmod 50) 0 1048576:=⟨by omega,by omega⟩
 have hMw:=wide_may hM hru
 have hcw:=wide_clash hM hru (by omega)
 have hU:Small 2000 (Venue.mk us v.Gap v.Radius v.Kills v.Poles):=⟨by show us.length < _;omega,hv.hk,hv.hp,by omega,by omega⟩
 have hW:Small 2000 (Venue.mk v.Seats v.Gap (v.Radius+(IntKind.u64.wrap a3).tmod 50) v.Kills v.Poles):=⟨hv.hs,hv.hk,hv.hp,by omega,by omega⟩
 unfold law6_GeomMoved
 rw[bindS e,gdD (by simp only[List.length_nil];omega),List.nil_append,bindS el,bindS (geom_Graph_eq hv),bindS (geom_Graph_eq hU),hz,bindS (geom_Graph_eq hW),dB_T hM,dB_T hMu,dB_T hMw,if_pos rfl,if_pos rfl,if_pos rfl]
 have l1:=graphL_len (v:=v)
 have l2:=graphL_len (v:=Venue.mk us v.Gap v.Radius v.Kills v.Poles)
 have l3:=graphL_len (v:=Venue.mk v.Seats v.Gap (v.Radius+(IntKind.u64.wrap a3).tmod 50) v.Kills v.Poles)
 have l2:(graphL (Venue.mk us v.Gap v.Radius v.Kills v.Poles)).length=us.length:=l2
 have l3:(graphL (Venue.mk v.Seats v.Gap (v.Radius+(IntKind.u64.wrap a3).tmod 50) v.Kills v.Poles)).length=v.Seats.length:=l3
 have hrow:∀i,rowG (Venue.mk us v.Gap v.Radius v.Kills v.Poles) i=rowG v i:=fun i=>by
  unfold rowG
  show((List.range us.length).filter _).map _=_
  rw[hul]
  congr 1
  exact List.filter_congr fun s _=>hcu _ _
 have e3:=gmoved_l3 hv (u:=Venue.mk us v.Gap v.Radius v.Kills v.Poles) (w:=Venue.mk v.Seats v.Gap (v.Radius+(IntKind.u64.wrap a3).tmod 50) v.Kills v.Poles) hW (a3:=a3) (by rw[hz]) hcw hul rfl hrow v.Seats.length 2000 0 (by omega) (by omega)
 have e3:law6_GeomMoved_l3 2000 a3 v (graphL v) (graphL (Venue.mk us v.Gap v.Radius v.Kills v.Poles)) (graphL (Venue.mk v.Seats v.Gap (v.Radius+(IntKind.u64.wrap a3).tmod 50) v.Kills v.Poles)) 2000 0=some (.go ()):=e3
 rw[condNT (by omega),condNT (by omega),decide_eq_true (by omega),bindS rfl,Bool.not_true,cond_false,bindS e3,elim_go,bindS law6_told_eq]
end
end Go.Px
