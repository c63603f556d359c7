/- The plain law, in parts: Base, Scan, Venue, Make, Kill, KillAsks, KillMore, KillNear, Run, Runs, Place, PlaceTop, PlaceApart, Plan, Plans, Geom, GeomNear. -/
import Derived.Test.YtlfpkjlaajfjnaaX
set_option linter.unusedVariables false
namespace Go.Px
open Go Go.Sh
theorem um (a m:Int) (h:0 < m):0≤(IntKind.u64.wrap a).tmod m∧(IntKind.u64.wrap a).tmod m < m:=by
 have h0:0≤IntKind.u64.wrap a:=by
  rw[IntKind.wrap_u64];omega
 exact⟨Int.tmod_nonneg _ h0,Int.tmod_lt_of_pos _ h⟩
theorem wr_id {x:Int} (h1 : -9223372036854775808≤x) (h2:x≤9223372036854775807):wr x=x:=w64 h1 h2
theorem wu_id {x:Int} (h1:0≤x) (h2:x≤18446744073709551615):IntKind.u64.wrap x=x:=wu64 h1 h2
section
variable {α β:Type}
theorem condT {c:Bool} {a b : α} (h:c=true):cond c a b=a:=by rw[h];rfl
theorem condF {c:Bool} {a b : α} (h:c=false):cond c a b=b:=by rw[h];rfl
theorem condD {p:Prop} {_:Decidable p} {a b : α} (h:p):cond (decide p) a b=a:=by rw[decide_eq_true h];rfl
theorem condN {p:Prop} {_:Decidable p} {a b : α} (h:¬p):cond (decide p) a b=b:=by rw[decide_eq_false h];rfl
theorem gdD {p:Prop} {_:Decidable p} {r:Option α} (h:p):gd (decide p) r=r:=by rw[decide_eq_true h];rfl
theorem elim_go {γ:Type} {a : α} {f : α → γ} {g : β → γ} : Ex.elim (.go a) f g=f a:=(exg rfl).symm
theorem elim_rt {γ:Type} {b : β} {f : α → γ} {g : β → γ} : Ex.elim (.rt b) f g=g b:=(exr rfl).symm
theorem bindS {x:Option α} {a : α} {f : α→Option β} (h:x=some a):Option.bind x f=f a:=by rw[h];rfl
theorem idx_get {l:List α} {i:Int} {y : α} (h0:0≤i) (h:l[i.toNat]?=some y):idx l i=some y:=by unfold idx;rw[if_pos h0,h]
theorem idx_nat {l:List α} {n:Nat} (h:n < l.length):idx l (n:Int)=some l[n]:=idx_get (by omega) (by rw[Int.toNat_natCast];exact List.getElem?_eq_getElem h)
end
theorem wr_succ {i:Nat} (h:i < 4294967296):wr ((i:Int)+1)=((i+1:Nat):Int):=by rw[wr_id (by omega) (by omega)];omega
end Go.Px

set_option linter.unusedVariables false
namespace Go.Px
open Go Go.Sh
section
variable {ρ α:Type}
theorem scan_go {f:Nat→Int→Option (Ex Unit ρ)} {len:Nat} {good:Nat→Prop}
  (hs:∀n i:Nat,i < len→good i→f (n+1) (i:Int)=f n ((i+1:Nat):Int))
  (he:∀n,f (n+1) (len:Int)=some (.go ())):∀d n i:Nat,i+d=len→d < n→(∀j,i≤j→j < len→good j)→f n (i:Int)=some (.go ())
 | d,0,i,_,h,_=>absurd h (by omega)
 | 0,n+1,i,hi,_,_=>by
  obtain rfl:i=len:=by omega
  exact he n
 | d+1,n+1,i,hi,h,hg=>by
  rw[hs n i (by omega) (hg i (by omega) (by omega))]
  exact scan_go hs he d n (i+1) (by omega) (by omega) (fun j h1 h2=>hg j (by omega) h2)
theorem scan_rt {f:Nat→Int→Option (Ex Unit ρ)} {len:Nat} {good:Nat→Prop} {r : ρ}
  (hs:∀n i:Nat,i < len→good i→f (n+1) (i:Int)=f n ((i+1:Nat):Int))
  (hf:∀n i:Nat,i < len→¬good i→f (n+1) (i:Int)=some (.rt r)):∀d n i:Nat,i+d=len→d < n→(∃j,i≤j∧j < len∧¬good j)→f n (i:Int)=some (.rt r)
 | d,0,i,_,h,_=>absurd h (by omega)
 | 0,n+1,i,hi,_,hg=>by
  obtain⟨j,h1,h2,_⟩:=hg
  omega
 | d+1,n+1,i,hi,h,hg=>by
  rcases Classical.em (good i) with hh | hh
  ·rw[hs n i (by omega) hh]
   refine scan_rt hs hf d n (i+1) (by omega) (by omega) ?_
   obtain⟨j,h1,h2,h3⟩:=hg
   refine⟨j,?_,h2,h3⟩
   rcases Nat.lt_or_ge i j with hl | hl
   ·omega
   ·exact absurd (show good j from by rw[show j=i by omega];exact hh) h3
  ·exact hf n i (by omega) hh
theorem scan {f:Nat→Int→Option (Ex Unit ρ)} {len:Nat} (good:Nat→Prop) {r : ρ}
  (hs:∀n i:Nat,i < len→good i→f (n+1) (i:Int)=f n ((i+1:Nat):Int))
  (hf:∀n i:Nat,i < len→¬good i→f (n+1) (i:Int)=some (.rt r))
  (he:∀n,f (n+1) (len:Int)=some (.go ())) {k:Nat} (hk:len < k) :
  ((∀j,j < len→good j)∧f k 0=some (.go ()))∨((¬∀j,j < len→good j)∧f k 0=some (.rt r)):=by
 rcases Classical.em (∀j,j < len→good j) with h | h
 ·exact .inl ⟨h,scan_go hs he len k 0 (by omega) hk fun j _ h2=>h j h2⟩
 ·refine .inr ⟨h,scan_rt hs hf len k 0 (by omega) hk ?_⟩
  obtain⟨j,hj⟩:=Classical.not_forall.1 h
  obtain⟨h1,h2⟩:=Classical.not_imp.1 hj
  exact⟨j,by omega,h1,h2⟩
theorem gather {f:Nat→List α→Int→Option (List α)} {len c:Nat} (p:Nat→Bool) (g:Nat → α)
  (hs:∀(n i:Nat) v,i < len→v.length≤c+i→f (n+1) v (i:Int)=f n (if p i then v++[g i] else v) ((i+1:Nat):Int))
  (he:∀n v,f (n+1) v (len:Int)=some v):∀(d n i:Nat) v,i+d=len→d < n→v.length≤c+i→f n v (i:Int)=some (v++((List.range' i d).filter p).map g)
 | d,0,i,v,_,h,_=>absurd h (by omega)
 | 0,n+1,i,v,hi,_,_=>by
  obtain rfl:i=len:=by omega
  rw[he]
  simp
 | d+1,n+1,i,v,hi,h,hv=>by
  rw[hs n i v (by omega) hv]
  have:=gather p g hs he d n (i+1) (if p i then v++[g i] else v) (by omega) (by omega) (by split <;> (try rw[List.length_append,List.length_singleton]) <;> omega)
  rw[this,List.range'_succ,List.filter_cons]
  cases p i <;> simp
theorem gather0 {f:Nat→List α→Int→Option (List α)} {len c:Nat} (p:Nat→Bool) (g:Nat → α)
  (hs:∀(n i:Nat) v,i < len→v.length≤c+i→f (n+1) v (i:Int)=f n (if p i then v++[g i] else v) ((i+1:Nat):Int))
  (he:∀n v,f (n+1) v (len:Int)=some v) {k:Nat} (hk:len < k) (v:List α) (hv:v.length≤c):f k v 0=some (v++((List.range len).filter p).map g):=by
 rw[List.range_eq_range']
 exact gather p g hs he len k 0 v (by omega) hk (by omega)
end
theorem wr_pred {i:Nat} (h:0 < i) (h2:i < 4294967296):wr ((i:Int)-1)=((i-1:Nat):Int):=by rw[wr_id (by omega) (by omega)];omega
theorem cNT {α:Type} {a b : α} : cond (!true) a b=b:=rfl
theorem condNT {p:Prop} [Decidable p] {α:Type} {a b : α} (h:p):cond (!decide p) a b=b:=by rw[decide_eq_true h];rfl
theorem condNF {p:Prop} [Decidable p] {α:Type} {a b : α} (h:¬p):cond (!decide p) a b=a:=by rw[decide_eq_false h];rfl
theorem condAnd {p q:Prop} [Decidable p] [Decidable q] {x:Option Bool} (h:x=some (decide q)):cond (decide p) x (some false)=some (decide (p∧q)):=by
 by_cases hp:p
 ·rw[condD hp,h];simp [hp]
 ·rw[condN hp];simp [hp]
end Go.Px

set_option linter.unusedVariables false
set_option linter.unusedSimpArgs false
namespace Go.Px
open Go Go.Sh
abbrev InP (x a b:Int):Prop:=a≤x∧x≤b
abbrev CoordP (x:Int):Prop:=InP x (-1048576) 1048576
abbrev SeatP (s:Seat):Prop:=InP s.Row 0 999∧CoordP s.X∧CoordP s.Y∧InP s.Kind 0 2
abbrev LessP (a b:Seat):Prop:=a.Row < b.Row∨(a.Row=b.Row∧a.X < b.X)
abbrev SeatsP (l:List Seat):Prop:=∀j,j < l.length→∀s,l[j]?=some s→SeatP s∧(0 < j→∀r,l[j-1]?=some r→LessP r s)
abbrev KillsP (l:List Int) (m:Int):Prop:=∀j,j < l.length→∀s,l[j]?=some s→0≤s∧s < m∧(0 < j→∀r,l[j-1]?=some r→r < s)
abbrev PolesP (l:List Pole):Prop:=∀j,j < l.length→∀s,l[j]?=some s→CoordP s.X∧CoordP s.Y∧InP s.R 1 1048576
structure MayV (v:Venue):Prop where
 seats:SeatsP v.Seats
 n0:1≤v.Seats.length
 n1:v.Seats.length≤4096
 gap:InP v.Gap 1 1048576
 radius:InP v.Radius 0 1048576
 kills:KillsP v.Kills v.Seats.length
 k1:v.Kills.length≤200
 poles:PolesP v.Poles
 p1:v.Poles.length≤200
open Classical in
noncomputable def mayB (v:Venue):Bool:=decide (MayV v)
open Classical in
theorem mayB_iff {v:Venue} : mayB v=true ↔ MayV v:=by unfold mayB;exact decide_eq_true_iff
theorem venue_in_eq (k:Nat) (x a b:Int):venue_in k x a b=some (decide (InP x a b)):=by
 unfold venue_in
 exact condAnd rfl
theorem venue_Coord_eq (k:Nat) (x:Int):venue_Coord k x=some (decide (CoordP x)):=by
 unfold venue_Coord
 rw[bindS (venue_in_eq _ _ _ _)]
theorem venue_Row_eq (k:Nat) (x:Int):venue_Row k x=some (decide (InP x 0 999)):=by
 unfold venue_Row
 rw[bindS (venue_in_eq _ _ _ _)]
theorem venue_Reach_eq (k:Nat) (x:Int):venue_Reach k x=some (decide (InP x 1 1048576)):=by
 unfold venue_Reach
 rw[bindS (venue_in_eq _ _ _ _)]
theorem venue_seat_eq (k:Nat) (s:Seat):venue_seat k s=some (decide (SeatP s)):=by
 unfold venue_seat
 have h:(Option.bind (venue_Row k s.Row) fun r2=>cond r2 (Option.bind (venue_Coord k s.X) fun r5=>cond r5 (Option.bind (venue_Coord k s.Y) fun r8=>some r8) (some false)) (some false))=some (decide (InP s.Row 0 999∧CoordP s.X∧CoordP s.Y)):=by
  rw[bindS (venue_Row_eq _ _)]
  refine condAnd ?_
  rw[bindS (venue_Coord_eq _ _)]
  refine condAnd ?_
  rw[bindS (venue_Coord_eq _ _)]
 rw[h]
 by_cases h0:s.Kind=0
 ·rw[condD h0]
  congr 1
  rw[decide_eq_decide]
  omega
 rw[condN h0]
 by_cases h1:s.Kind=1
 ·rw[condD h1]
  congr 1
  rw[decide_eq_decide]
  omega
 rw[condN h1]
 by_cases h2:s.Kind=2
 ·rw[condD h2]
  congr 1
  rw[decide_eq_decide]
  omega
 rw[condN h2]
 congr 1
 symm
 rw[decide_eq_false_iff_not]
 omega
theorem venue_Less_eq (k:Nat) (a b:Seat):venue_Less k a b=some (decide (LessP a b)):=by
 unfold venue_Less
 by_cases h:a.Row < b.Row
 ·rw[condD h,decide_eq_true (.inl h)]
 ·rw[condN h,condAnd rfl]
  congr 1
  rw[decide_eq_decide]
  omega
theorem some_get {α:Type} {l:List α} {i:Nat} (h:i < l.length):∃s,l[i]?=some s∧idx l (i:Int)=some s:=⟨l[i],List.getElem?_eq_getElem h,idx_nat h⟩
theorem venue_seats_eq (k:Nat) (l:List Seat) (hl:l.length < k) (hb:l.length≤4294967295):∃b,venue_seats k l=some b∧(b=true ↔ SeatsP l∧1≤l.length∧l.length≤4096):=by
 unfold venue_seats
 have hs:∀n i:Nat,i < l.length→(∀s,l[i]?=some s→SeatP s∧(0 < i→∀r,l[i-1]?=some r→LessP r s))→venue_seats_l0 k l (n+1) (i:Int)=venue_seats_l0 k l n ((i+1:Nat):Int):=by
  intro n i hi hg
  obtain⟨s,e1,e2⟩:=some_get hi
  obtain⟨g1,g2⟩:=hg s e1
  rw[venue_seats_l0,condD (by omega),bindS e2,bindS (venue_seat_eq _ _),condNT g1,wr_succ (by omega)]
  by_cases h0:0 < i
  ·obtain⟨r,f1,f2⟩:=some_get (l:=l) (i:=i-1) (by omega)
   rw[condD (by omega),wr_pred h0 (by omega),bindS f2,bindS (venue_Less_eq _ _ _),condNT (g2 h0 r f1)]
  ·rw[condN (by omega)]
 have hf:∀n i:Nat,i < l.length→¬(∀s,l[i]?=some s→SeatP s∧(0 < i→∀r,l[i-1]?=some r→LessP r s))→venue_seats_l0 k l (n+1) (i:Int)=some (.rt false):=by
  intro n i hi hg
  obtain⟨s,e1,e2⟩:=some_get hi
  rw[venue_seats_l0,condD (by omega),bindS e2,bindS (venue_seat_eq _ _)]
  by_cases g1:SeatP s
  ·rw[condNT g1]
   by_cases h0:0 < i
   ·obtain⟨r,f1,f2⟩:=some_get (l:=l) (i:=i-1) (by omega)
    rw[condD (by omega),wr_pred h0 (by omega),bindS f2,bindS (venue_Less_eq _ _ _),condNF]
    intro hh
    refine hg fun s' e'=>?_
    rw[e1] at e'
    cases e'
    refine⟨g1,fun _ r' f'=>?_⟩
    rw[f1] at f'
    cases f'
    exact hh
   ·refine absurd (fun s' e'=>?_) hg
    rw[e1] at e'
    cases e'
    exact⟨g1,fun h=>absurd h h0⟩
  ·rw[condNF g1]
 have he:∀n,venue_seats_l0 k l (n+1) (l.length:Int)=some (.go ()):=fun n=>by rw[venue_seats_l0,condN (by omega)]
 rcases scan _ hs hf he hl with⟨g,e⟩ | ⟨g,e⟩
 ·rw[bindS e,elim_go,condAnd rfl]
  refine⟨_,rfl,?_⟩
  rw[decide_eq_true_iff]
  constructor
  ·rintro ⟨a,b⟩;exact⟨g,by omega,by omega⟩
  ·rintro ⟨_,a,b⟩;omega
 ·rw[bindS e,elim_rt]
  exact⟨_,rfl,by simp;exact fun h=>absurd h g⟩
theorem venue_kills_eq (k:Nat) (l:List Int) (m:Int) (hl:l.length < k) (hb:l.length≤4294967295):∃b,venue_kills k l m=some b∧(b=true ↔ KillsP l m∧l.length≤200):=by
 unfold venue_kills
 have hs:∀n i:Nat,i < l.length→(∀s,l[i]?=some s→0≤s∧s < m∧(0 < i→∀r,l[i-1]?=some r→r < s))→venue_kills_l0 k l m (n+1) (i:Int)=venue_kills_l0 k l m n ((i+1:Nat):Int):=by
  intro n i hi hg
  obtain⟨s,e1,e2⟩:=some_get hi
  obtain⟨g1,g2,g3⟩:=hg s e1
  rw[venue_kills_l0,condD (by omega),bindS e2,condN (by omega),condN (by omega),wr_succ (by omega)]
  by_cases h0:0 < i
  ·obtain⟨r,f1,f2⟩:=some_get (l:=l) (i:=i-1) (by omega)
   have:=g3 h0 r f1
   rw[condD (by omega),wr_pred h0 (by omega),bindS f2,condN (by omega)]
  ·rw[condN (by omega)]
 have hf:∀n i:Nat,i < l.length→¬(∀s,l[i]?=some s→0≤s∧s < m∧(0 < i→∀r,l[i-1]?=some r→r < s))→venue_kills_l0 k l m (n+1) (i:Int)=some (.rt false):=by
  intro n i hi hg
  obtain⟨s,e1,e2⟩:=some_get hi
  rw[venue_kills_l0,condD (by omega),bindS e2]
  by_cases g1:s < 0
  ·rw[condD g1]
  rw[condN g1]
  by_cases g2:m≤s
  ·rw[condD g2]
  rw[condN g2]
  by_cases h0:0 < i
  ·obtain⟨r,f1,f2⟩:=some_get (l:=l) (i:=i-1) (by omega)
   rw[condD (by omega),wr_pred h0 (by omega),bindS f2,condD]
   apply Classical.byContradiction
   intro hh
   refine hg fun s' e'=>?_
   rw[e1] at e'
   cases e'
   refine⟨by omega,by omega,fun _ r' f'=>?_⟩
   rw[f1] at f'
   cases f'
   omega
  ·refine absurd (fun s' e'=>?_) hg
   rw[e1] at e'
   cases e'
   exact⟨by omega,by omega,fun h=>absurd h h0⟩
 have he:∀n,venue_kills_l0 k l m (n+1) (l.length:Int)=some (.go ()):=fun n=>by rw[venue_kills_l0,condN (by omega)]
 rcases scan _ hs hf he hl with⟨g,e⟩ | ⟨g,e⟩
 ·rw[bindS e,elim_go]
  refine⟨_,rfl,?_⟩
  rw[decide_eq_true_iff]
  constructor
  ·intro a;exact⟨g,by omega⟩
  ·rintro ⟨_,a⟩;omega
 ·rw[bindS e,elim_rt]
  exact⟨_,rfl,by simp;exact fun h=>absurd h g⟩
theorem venue_poles_eq (k:Nat) (l:List Pole) (hl:l.length < k) (hb:l.length≤4294967295):∃b,venue_poles k l=some b∧(b=true ↔ PolesP l∧l.length≤200):=by
 unfold venue_poles
 have hs:∀n i:Nat,i < l.length→(∀s,l[i]?=some s→CoordP s.X∧CoordP s.Y∧InP s.R 1 1048576)→venue_poles_l0 k l (n+1) (i:Int)=venue_poles_l0 k l n ((i+1:Nat):Int):=by
  intro n i hi hg
  obtain⟨s,e1,e2⟩:=some_get hi
  obtain⟨g1,g2,g3⟩:=hg s e1
  rw[venue_poles_l0,condD (by omega),bindS e2,bindS (venue_Coord_eq _ _),condNT g1,bindS (venue_Coord_eq _ _),condNT g2,bindS (venue_Reach_eq _ _),condNT g3,wr_succ (by omega)]
 have hf:∀n i:Nat,i < l.length→¬(∀s,l[i]?=some s→CoordP s.X∧CoordP s.Y∧InP s.R 1 1048576)→venue_poles_l0 k l (n+1) (i:Int)=some (.rt false):=by
  intro n i hi hg
  obtain⟨s,e1,e2⟩:=some_get hi
  rw[venue_poles_l0,condD (by omega),bindS e2,bindS (venue_Coord_eq _ _),bindS (venue_Coord_eq _ _),bindS (venue_Reach_eq _ _)]
  by_cases g1:CoordP s.X
  ·by_cases g2:CoordP s.Y
   ·by_cases g3:InP s.R 1 1048576
    ·refine absurd (fun s' e'=>?_) hg
     rw[e1] at e'
     cases e'
     exact⟨g1,g2,g3⟩
    ·rw[condNT g1,condNT g2,condNF g3]
   ·rw[condNT g1,condNF g2]
  ·rw[condNF g1]
 have he:∀n,venue_poles_l0 k l (n+1) (l.length:Int)=some (.go ()):=fun n=>by rw[venue_poles_l0,condN (by omega)]
 rcases scan _ hs hf he hl with⟨g,e⟩ | ⟨g,e⟩
 ·rw[bindS e,elim_go]
  refine⟨_,rfl,?_⟩
  rw[decide_eq_true_iff]
  constructor
  ·intro a;exact⟨g,by omega⟩
  ·rintro ⟨_,a⟩;omega
 ·rw[bindS e,elim_rt]
  exact⟨_,rfl,by simp;exact fun h=>absurd h g⟩
theorem notT {b:Bool} {p:Prop} (h:b=true ↔ p):(p∧b=true)∨(¬p∧b=false):=by
 cases b
 ·exact .inr ⟨fun hp=>absurd (h.2 hp) (by simp),rfl⟩
 ·exact .inl ⟨h.1 rfl,rfl⟩
theorem may_no {v:Venue} (h:¬MayV v):mayB v=false:=by
 cases e:mayB v
 ·rfl
 ·exact absurd (mayB_iff.1 e) h
theorem venue_May_eq (k:Nat) (v:Venue) (h1:v.Seats.length < k) (h2:v.Kills.length < k) (h3:v.Poles.length < k) (hk:k≤4294967295):venue_May k v=some (mayB v):=by
 unfold venue_May venue_Wrong
 obtain⟨b1,e1,g1⟩:=venue_seats_eq k v.Seats h1 (by omega)
 obtain⟨b2,e2,g2⟩:=venue_kills_eq k v.Kills (v.Seats.length:Int) h2 (by omega)
 obtain⟨b3,e3,g3⟩:=venue_poles_eq k v.Poles h3 (by omega)
 rw[bindS e1,bindS (venue_Reach_eq _ _),bindS (venue_in_eq _ _ _ _),bindS e2,bindS e3]
 rcases notT g1 with⟨p1,rfl⟩ | ⟨p1,rfl⟩
 ·by_cases p4:InP v.Gap 1 1048576
  ·by_cases p5:InP v.Radius 0 1048576
   ·rcases notT g2 with⟨p2,rfl⟩ | ⟨p2,rfl⟩
    ·rcases notT g3 with⟨p3,rfl⟩ | ⟨p3,rfl⟩
     ·rw[mayB_iff.2 ⟨p1.1,p1.2.1,p1.2.2,p4,p5,p2.1,p2.2,p3.1,p3.2⟩,condNT p4,condNT p5]
      rfl
     ·rw[may_no (fun h=>p3 ⟨h.poles,h.p1⟩),condNT p4,condNT p5]
      rfl
    ·rw[may_no (fun h=>p2 ⟨h.kills,h.k1⟩),condNT p4,condNT p5]
     rfl
   ·rw[may_no (fun h=>p5 h.radius),condNT p4,condNF p5]
    rfl
  ·rw[may_no (fun h=>p4 h.gap),condNF p4]
   rfl
 ·rw[may_no (fun h=>p1 ⟨h.seats,h.n0,h.n1⟩)]
  rfl
end Go.Px

set_option linter.unusedVariables false
set_option linter.unusedSimpArgs false
namespace Go.Px
open Go Go.Sh
theorem snoc_get {α:Type} {l:List α} {x s : α} {j:Nat} (h:(l++[x])[j]?=some s):(j < l.length∧l[j]?=some s)∨(j=l.length∧s=x):=by
 rcases Nat.lt_or_ge j l.length with hl | hl
 ·rw[List.getElem?_append_left hl] at h
  exact .inl ⟨hl,h⟩
 ·rw[List.getElem?_append_right hl] at h
  rcases Nat.eq_or_lt_of_le hl with e | hl
  ·rw[← e,Nat.sub_self] at h
   simp at h
   exact .inr ⟨e.symm,h.symm⟩
  ·rw[List.getElem?_eq_none (by simp;omega)] at h
   cases h
theorem SeatsP.snoc {l:List Seat} {x:Seat} (h:SeatsP l) (hx:SeatP x) (hl:∀r,l[l.length-1]?=some r→LessP r x):SeatsP (l++[x]):=by
 intro j hj s hs
 rcases snoc_get hs with⟨h1,h2⟩ | ⟨h1,rfl⟩
 ·refine⟨(h j h1 s h2).1,fun h0 r hr=>(h j h1 s h2).2 h0 r ?_⟩
  rcases snoc_get hr with⟨_,hr⟩ | ⟨e,_⟩
  ·exact hr
  ·omega
 ·refine⟨hx,fun h0 r hr=>?_⟩
  rcases snoc_get hr with⟨_,hr⟩ | ⟨e,_⟩
  ·rw[h1] at hr
   exact hl r hr
  ·omega
theorem KillsP.snoc {l:List Int} {x m:Int} (h:KillsP l x) (h0:0≤x) (hx:x < m):KillsP (l++[x]) m:=by
 intro j hj s hs
 rcases snoc_get hs with⟨h1,h2⟩ | ⟨h1,rfl⟩
 ·obtain⟨a,b,c⟩:=h j h1 s h2
  refine⟨a,by omega,fun h0 r hr=>c h0 r ?_⟩
  rcases snoc_get hr with⟨_,hr⟩ | ⟨e,_⟩
  ·exact hr
  ·omega
 ·refine⟨h0,hx,fun h0 r hr=>?_⟩
  rcases snoc_get hr with⟨hl,hr⟩ | ⟨e,_⟩
  ·exact(h _ hl r hr).2.1
  ·omega
theorem KillsP.mono {l:List Int} {x m:Int} (h:KillsP l x) (hx:x≤m):KillsP l m:=fun j hj s hs=>by
 obtain⟨a,b,c⟩:=h j hj s hs
 exact⟨a,by omega,c⟩
theorem PolesP.snoc {l:List Pole} {x:Pole} (h:PolesP l) (hx:CoordP x.X∧CoordP x.Y∧InP x.R 1 1048576):PolesP (l++[x]):=by
 intro j hj s hs
 rcases snoc_get hs with⟨h1,h2⟩ | ⟨h1,rfl⟩
 ·exact h j h1 s h2
 ·exact hx
structure MkI (S:List Seat) (rad:Int) (K:List Int) (P:List Pole) (row x:Int) (i:Nat):Prop where
 len:S.length=i+1
 seats:SeatsP S
 last:∀r,S[S.length-1]?=some r→r.Row=row∧r.X=x
 r0:0≤row
 r1:row≤i
 x0:0≤x
 x1:x≤15 * (i:Int)
 rad0:InP rad 0 24
 kills:KillsP K S.length
 kl:K.length≤S.length
 poles:PolesP P
 pl:P.length≤S.length
 sm:∀s,s ∈ S→InP s.X 0 (15 * (i:Int))∧InP s.Y 0 (10 * (i:Int))
structure MkF (m:Nat) (o:List Seat×Int×List Int×List Pole):Prop where
 seats:SeatsP o.1
 n0:1≤o.1.length
 n1:o.1.length≤m
 rad:InP o.2.1 0 24
 kills:KillsP o.2.2.1 o.1.length
 kl:o.2.2.1.length≤m
 poles:PolesP o.2.2.2
 pl:o.2.2.2.length≤m
 sm:∀s,s ∈ o.1→InP s.X 0 1500∧InP s.Y 0 1000
theorem make_l0 (k:Nat) (l:List Int) (m:Nat) (hm:m≤100):∀(n:Nat) S rad K P row x (i:Nat),MkI S rad K P row x i→S.length≤m→m-S.length < n→∃o,law3_Make_l0 k l (m:Int) n S rad K P row x (i:Int)=some o∧MkF m o
 | 0,S,rad,K,P,row,x,i,_,_,h=>absurd h (by omega)
 | n+1,S,rad,K,P,row,x,i,hI,hS,hn=>by
  have hlen:=hI.len
  have hx0:=hI.x0
  have hx1:=hI.x1
  have hr0:=hI.r0
  have hr1:=hI.r1
  have hkl:=hI.kl
  have hpl:=hI.pl
  rw[law3_Make_l0]
  by_cases hc:i < l.length∧S.length < m
  ·rw[condD (by omega),bindS rfl,condD (by omega)]
   obtain⟨y,_,e2⟩:=some_get hc.1
   rw[bindS e2]
   have h108:∃o:Int×Int,(cond (decide (((IntKind.u64.wrap y).tmod 7)=0)) (some (wr (row+1),0)) (cond (decide (((IntKind.u64.wrap y).tmod 7)=1)) (some (row,wr ((wr (x+10))+5))) (some (row,wr (x+10)))))=some o∧((o.1=row+1∧o.2=0)∨(o.1=row∧x < o.2∧o.2≤x+15)):=by
    rw[wr_id (x:=row+1) (by omega) (by omega),wr_id (x:=x+10) (by omega) (by omega),wr_id (x:=x+10+5) (by omega) (by omega)]
    by_cases c1:(IntKind.u64.wrap y).tmod 7=0
    ·rw[condD c1];exact⟨_,rfl,.inl ⟨rfl,rfl⟩⟩
    rw[condN c1]
    by_cases c2:(IntKind.u64.wrap y).tmod 7=1
    ·rw[condD c2];exact⟨_,rfl,.inr ⟨rfl,by simp only;omega,by simp only;omega⟩⟩
    ·rw[condN c2];exact⟨_,rfl,.inr ⟨rfl,by simp only;omega,by simp only;omega⟩⟩
   obtain⟨o,e108,ho⟩:=h108
   rw[bindS e108]
   have h116:∃kd:Int,(cond (decide (((IntKind.u64.wrap ((IntKind.u64.wrap y).tdiv 7)).tmod 6)=0)) (some (1:Int)) (cond (decide (((IntKind.u64.wrap ((IntKind.u64.wrap y).tdiv 7)).tmod 6)=1)) (some 2) (cond (decide (((IntKind.u64.wrap ((IntKind.u64.wrap y).tdiv 7)).tmod 6)=2)) (some 2) (some 0))))=some kd∧InP kd 0 2:=by
    generalize (IntKind.u64.wrap ((IntKind.u64.wrap y).tdiv 7)).tmod 6=q
    by_cases c1:q=0
    ·rw[condD c1];exact⟨_,rfl,by omega⟩
    rw[condN c1]
    by_cases c2:q=1
    ·rw[condD c2];exact⟨_,rfl,by omega⟩
    rw[condN c2]
    by_cases c3:q=2
    ·rw[condD c3];exact⟨_,rfl,by omega⟩
    ·rw[condN c3];exact⟨_,rfl,by omega⟩
   obtain⟨kd,e116,hkd⟩:=h116
   have hrow:wr (10 * o.1)=10 * o.1:=wr_id (by omega) (by omega)
   have hl1:(S++[Seat.mk o.1 o.2 (10 * o.1) kd]).length=S.length+1:=by simp
   rw[bindS e116,hrow,gdD (by simp only[List.length_singleton];omega),hl1,show wr (((S.length+1:Nat):Int)-1)=(S.length:Int) by rw[wr_id (by omega) (by omega)];omega]
   have h125:∃K',(cond (decide (((IntKind.u64.wrap ((IntKind.u64.wrap y).tdiv 42)).tmod 9)=0)) (gd (decide (K.length+([(S.length:Int)]).length≤4294967296)) (some (K++[(S.length:Int)]))) (some K))=some K'∧KillsP K' ((S.length+1:Nat):Int)∧K'.length≤S.length+1:=by
    generalize (IntKind.u64.wrap ((IntKind.u64.wrap y).tdiv 42)).tmod 9=q
    by_cases c1:q=0
    ·rw[condD c1,gdD (by simp only[List.length_singleton];omega)]
     exact⟨_,rfl,hI.kills.snoc (by omega) (by omega),by simp;omega⟩
    ·rw[condN c1]
     exact⟨_,rfl,hI.kills.mono (by omega),by omega⟩
   obtain⟨K',e125,hK,hKl⟩:=h125
   rw[bindS e125]
   obtain⟨q0,q1⟩:=um ((IntKind.u64.wrap y).tdiv 500) 12 (by omega)
   have h132:∃P',(cond (decide (((IntKind.u64.wrap ((IntKind.u64.wrap y).tdiv 42)).tmod 11)=1)) (gd (decide (P.length+([Pole.mk o.2 (10 * o.1) (wr (1+(wr ((IntKind.u64.wrap ((IntKind.u64.wrap y).tdiv 500)).tmod 12))))]).length≤4294967296)) (some (P++[Pole.mk o.2 (10 * o.1) (wr (1+(wr ((IntKind.u64.wrap ((IntKind.u64.wrap y).tdiv 500)).tmod 12))))]))) (some P))=some P'∧PolesP P'∧P'.length≤S.length+1:=by
    generalize (IntKind.u64.wrap ((IntKind.u64.wrap y).tdiv 42)).tmod 11=q
    rw[wr_id (x:=(IntKind.u64.wrap ((IntKind.u64.wrap y).tdiv 500)).tmod 12) (by omega) (by omega),wr_id (x:=1+(IntKind.u64.wrap ((IntKind.u64.wrap y).tdiv 500)).tmod 12) (by omega) (by omega)]
    by_cases c1:q=1
    ·rw[condD c1,gdD (by simp only[List.length_singleton];omega)]
     exact⟨_,rfl,hI.poles.snoc ⟨by simp only;omega,by simp only;omega,by simp only;omega⟩,by simp;omega⟩
    ·rw[condN c1]
     exact⟨_,rfl,hI.poles,by omega⟩
   obtain⟨P',e132,hP,hPl⟩:=h132
   rw[bindS e132,wr_succ (by omega)]
   obtain⟨w0,w1⟩:=um ((IntKind.u64.wrap y).tdiv 300) 25 (by omega)
   have hN:∀rad',InP rad' 0 24→MkI (S++[Seat.mk o.1 o.2 (10 * o.1) kd]) rad' K' P' o.1 o.2 (i+1):=fun rad' hr=>by
    refine⟨by rw[hl1];omega,hI.seats.snoc ⟨by simp only;omega,by simp only;omega,by simp only;omega,hkd⟩ (fun r hr=>?_),fun r hr=>?_,by omega,by omega,by omega,by omega,hr,by rw[hl1];exact hK,by rw[hl1];exact hKl,hP,by rw[hl1];exact hPl,fun s hs=>?_⟩
    ·obtain⟨a,b⟩:=hI.last r hr
     show r.Row < o.1∨(r.Row=o.1∧r.X < o.2)
     omega
    ·rw[hl1] at hr
     rcases snoc_get hr with⟨h1,h2⟩ | ⟨_,rfl⟩
     ·omega
     ·exact⟨rfl,rfl⟩
    ·rcases List.mem_append.1 hs with h | h
     ·have:=hI.sm s h
      exact⟨by omega,by omega⟩
     ·rw[List.mem_singleton] at h
      subst h
      exact⟨by simp only;omega,by simp only;omega⟩
   have hrec:∀rad',InP rad' 0 24→∃o',law3_Make_l0 k l (m:Int) n (S++[Seat.mk o.1 o.2 (10 * o.1) kd]) rad' K' P' o.1 o.2 ((i+1:Nat):Int)=some o'∧MkF m o':=fun rad' hr =>
    make_l0 k l m hm n _ rad' K' P' o.1 o.2 (i+1) (hN rad' hr) (by rw[hl1];omega) (by rw[hl1];omega)
   generalize (IntKind.u64.wrap ((IntKind.u64.wrap y).tdiv 42)).tmod 5=q
   by_cases c1:q=3
   ·rw[condD c1,wr_id (x:=(IntKind.u64.wrap ((IntKind.u64.wrap y).tdiv 300)).tmod 25) (by omega) (by omega)]
    exact hrec _ (by omega)
   ·rw[condN c1]
    exact hrec _ hI.rad0
  ·have:(cond (decide ((i:Int) < (l.length:Int))) (some (decide ((S.length:Int) < (m:Int)))) (some false))=some false:=by
    by_cases c1:i < l.length
    ·rw[condD (by omega),decide_eq_false (by omega)]
    ·rw[condN (by omega)]
   rw[this,bindS rfl,condF rfl]
   exact⟨_,rfl,hI.seats,by simp only;omega,hS,hI.rad0,hI.kills,by simp only;omega,hI.poles,by simp only;omega,fun s hs=>by have:=hI.sm s hs;exact⟨by omega,by omega⟩⟩
structure MadeV (m:Nat) (v:Venue):Prop where
 may:MayV v
 n1:v.Seats.length≤m
 gap:v.Gap=10
 rad:InP v.Radius 0 24
 kl:v.Kills.length≤m
 pl:v.Poles.length≤m
 sm:∀s,s ∈ v.Seats→InP s.X 0 1500∧InP s.Y 0 1000
theorem law3_Make_eq (k:Nat) (l:List Int) (m:Nat) (h1:1≤m) (hm:m≤100) (hk:100≤k):∃v,law3_Make k l (m:Int)=some v∧MadeV m v:=by
 unfold law3_Make
 have hI:MkI [Seat.mk 0 0 0 0] 0 [] [] 0 0 0:=by
  refine⟨rfl,?_,?_,by omega,by omega,by omega,by omega,by omega,?_,by simp,?_,by simp,fun s hs=>by rw[List.mem_singleton] at hs;subst hs;exact⟨by simp only;omega,by simp only;omega⟩⟩
  ·intro j hj s hs
   have:j=0:=by simp at hj;omega
   subst this
   simp at hs
   subst hs
   exact⟨by decide,fun h=>absurd h (by omega)⟩
  ·intro r hr
   simp at hr
   subst hr
   exact⟨rfl,rfl⟩
  ·intro j hj
   simp at hj
  ·intro j hj
   simp at hj
 obtain⟨o,e,h⟩:=make_l0 k l m hm k _ _ _ _ _ _ 0 hI (by simpa using h1) (by simp;omega)
 have e':law3_Make_l0 k l (m:Int) k [Seat.mk 0 0 0 0] 0 [] [] 0 0 0=some o:=e
 rw[bindS e']
 have a1:=h.n1
 have a2:=h.kl
 have a3:=h.pl
 have a4:=h.rad
 exact⟨_,rfl,⟨h.seats,h.n0,by simp only;omega,by simp only;omega,by simp only;omega,h.kills,by simp only;omega,h.poles,by simp only;omega⟩,h.n1,rfl,h.rad,h.kl,h.pl,h.sm⟩
end Go.Px

set_option linter.unusedVariables false
set_option linter.unusedSimpArgs false
namespace Go.Px
open Go Go.Sh
theorem sq_le {d:Int} (h:InP d (-2097152) 2097152):0≤d * d∧d * d≤4398046511104:=by
 have:d * d=((d.natAbs * d.natAbs:Nat):Int):=(Int.natAbs_mul_self' d).symm
 have h2:d.natAbs * d.natAbs≤2097152 * 2097152:=Nat.mul_le_mul (by omega) (by omega)
 omega
def far (a b:Seat):Int:=if CoordP a.X∧CoordP a.Y∧CoordP b.X∧CoordP b.Y then (a.X-b.X) * (a.X-b.X)+(a.Y-b.Y) * (a.Y-b.Y) else 0
theorem far_wr {a b:Seat} (h:CoordP a.X∧CoordP a.Y∧CoordP b.X∧CoordP b.Y):wr ((wr ((wr (a.X-b.X)) * (wr (a.X-b.X))))+(wr ((wr (a.Y-b.Y)) * (wr (a.Y-b.Y)))))=far a b:=by
 unfold far
 rw[if_pos h]
 have h1:=sq_le (d:=a.X-b.X) (by omega)
 have h2:=sq_le (d:=a.Y-b.Y) (by omega)
 rw[wr_id (x:=a.X-b.X) (by omega) (by omega),wr_id (x:=a.Y-b.Y) (by omega) (by omega),wr_id (x:=(a.X-b.X) * (a.X-b.X)) (by omega) (by omega),wr_id (x:=(a.Y-b.Y) * (a.Y-b.Y)) (by omega) (by omega)]
 exact wr_id (by omega) (by omega)
theorem geom_Far_eq (k:Nat) (a b:Seat) (hk:3≤k):geom_Far k a b=some (far a b):=by
 obtain⟨n,rfl⟩:∃n,k=n+3:=⟨k-3,by omega⟩
 unfold geom_Far
 have i0:idx [a,b] 0=some a:=rfl
 have i1:idx [a,b] 1=some b:=rfl
 have w1:wr (0+1)=1:=by decide
 have w2:wr (1+1)=2:=by decide
 rw[geom_Far_l0,condD (by show(0:Int) < 2;omega),bindS i0,bindS (venue_Coord_eq _ _),bindS (venue_Coord_eq _ _)]
 by_cases h1:CoordP a.X
 ·rw[condNT h1]
  by_cases h2:CoordP a.Y
  ·rw[condNT h2,w1,geom_Far_l0,condD (by show(1:Int) < 2;omega),bindS i1,bindS (venue_Coord_eq _ _),bindS (venue_Coord_eq _ _)]
   by_cases h3:CoordP b.X
   ·rw[condNT h3]
    by_cases h4:CoordP b.Y
    ·rw[condNT h4,w2,geom_Far_l0,condN (by show ¬(2:Int) < 2;omega),bindS rfl,elim_go,far_wr ⟨h1,h2,h3,h4⟩]
    ·rw[condNF h4,bindS rfl,elim_rt,far,if_neg (fun h=>h4 h.2.2.2)]
   ·rw[condNF h3,bindS rfl,elim_rt,far,if_neg (fun h=>h3 h.2.2.1)]
  ·rw[condNF h2,bindS rfl,elim_rt,far,if_neg (fun h=>h2 h.2.1)]
 ·rw[condNF h1,bindS rfl,elim_rt,far,if_neg (fun h=>h1 h.1)]
def closeB (a b:Seat) (r:Int):Bool:=decide (far a b < wr (r * r))
theorem geom_Close_eq (k:Nat) (a b:Seat) (r:Int) (hk:3≤k):geom_Close k a b r=some (closeB a b r):=by
 unfold geom_Close
 rw[bindS (geom_Far_eq k a b hk)]
 rfl
def poleS (p:Pole):Seat:=Seat.mk 0 p.X p.Y 0
instance:Inhabited Seat:=⟨Seat.mk 0 0 0 0⟩
def poleB (v:Venue) (s j:Nat):Bool:=closeB (v.Seats.getD s default) (poleS (v.Poles.getD j default)) (v.Poles.getD j default).R
def killL (v:Venue) (s:Nat):List Int:=(if (s:Int) ∈ v.Kills then [-1] else [])++((List.range v.Poles.length).filter (poleB v s)).map (fun j:Nat=>(j:Int))
theorem getD_of {α:Type} {l:List α} {i:Nat} {s d : α} (h:l[i]?=some s):l.getD i d=s:=by rw[List.getD_eq_getElem?_getD,h];rfl
def deadB (v:Venue) (s:Nat):Bool:=decide ((killL v s).length=0)
def usL (v:Venue):List Bool:=(List.range v.Seats.length).map (deadB v)
structure Small (k:Nat) (v:Venue):Prop where
 hs:v.Seats.length < k
 hk:v.Kills.length < k
 hp:v.Poles.length < k
 b:k≤4294967290
 b3:3≤k
theorem sameInts_refl (k:Nat) (l:List Int) (hl:l.length < k) (hb:l.length≤4294967290):ref6_SameInts k l l=some true:=by
 unfold ref6_SameInts
 rw[condNT rfl]
 have h:=scan_go (f:=fun n i=>ref6_SameInts_l0 k l l n i) (len:=l.length) (good:=fun _=>True)
  (fun n i hi _=>by
   show ref6_SameInts_l0 k l l (n+1) (i:Int)=_
   obtain⟨y,e1,e2⟩:=some_get hi
   rw[ref6_SameInts_l0,condD (by omega),bindS e2,bindS e2,condNT rfl,wr_succ (by omega)])
  (fun n=>by show ref6_SameInts_l0 k l l (n+1) _=_;rw[ref6_SameInts_l0,condN (by omega)]) l.length k 0 (by omega) hl (fun _ _ _=>trivial)
 have h:ref6_SameInts_l0 k l l k 0=_:=h
 rw[bindS h,elim_go]
end Go.Px

set_option linter.unusedVariables false
set_option linter.unusedSimpArgs false
namespace Go.Px
open Go Go.Sh
end Go.Px

set_option linter.unusedVariables false
set_option linter.unusedSimpArgs false
namespace Go.Px
open Go Go.Sh
end Go.Px

set_option linter.unusedVariables false
set_option linter.unusedSimpArgs false
namespace Go.Px
open Go Go.Sh
def nearL (v:Venue) (x y r:Int):List Int:=((List.range v.Seats.length).filter (fun s=>closeB (v.Seats.getD s default) (Seat.mk 0 x y 0) r)).map (fun j:Nat=>(j:Int))
theorem geom_Near_l0_eq {k:Nat} {v:Venue} (hv:Small k v) (x y r:Int):geom_Near_l0 k v x y r k [] 0=some (nearL v x y r):=by
 have hb:=hv.b
 have hs:=hv.hs
 have h:=gather0 (f:=fun n a i=>geom_Near_l0 k v x y r n a i) (len:=v.Seats.length) (c:=0) (fun s=>closeB (v.Seats.getD s default) (Seat.mk 0 x y 0) r) (fun j:Nat=>(j:Int))
  (fun n i w hi hw=>by
   obtain⟨t,e1,e2⟩:=some_get hi
   show geom_Near_l0 k v x y r (n+1) w (i:Int)=geom_Near_l0 k v x y r n _ _
   rw[geom_Near_l0,condD (by omega),bindS e2,bindS (geom_Close_eq _ _ _ _ hv.b3),wr_succ (by omega),getD_of e1]
   cases closeB t (Seat.mk 0 x y 0) r
   ·rw[condF rfl];rfl
   ·rw[condT rfl,gdD (by simp only[List.length_singleton];omega)];rfl)
  (fun n w=>by show geom_Near_l0 k v x y r (n+1) w _=_;rw[geom_Near_l0,condN (by omega)])
  hs [] (by simp)
 exact h
theorem geom_Near_eq {k:Nat} {v:Venue} (hv:Small k v) (hM:MayV v) {x y r:Int} (hx:CoordP x) (hy:CoordP y) (hr:InP r 1 1048576):geom_Near k v x y r=some (nearL v x y r):=by
 have hb:=hv.b
 unfold geom_Near
 rw[bindS (venue_May_eq k v hv.hs hv.hk hv.hp (by omega)),mayB_iff.2 hM,cNT,bindS (venue_Coord_eq _ _),condNT hx,bindS (venue_Coord_eq _ _),condNT hy,bindS (venue_Reach_eq _ _),decide_eq_true hr,bindS rfl,cNT,bindS (geom_Near_l0_eq hv x y r)]
theorem nearL_mem {v:Venue} {x y r:Int} {s:Nat} : (s:Int) ∈ nearL v x y r ↔ s < v.Seats.length∧closeB (v.Seats.getD s default) (Seat.mk 0 x y 0) r=true:=by
 unfold nearL
 rw[List.mem_map]
 constructor
 ·rintro ⟨j,h,e⟩
  rw[List.mem_filter,List.mem_range] at h
  obtain rfl:j=s:=by omega
  exact h
 ·intro h
  exact⟨s,by rw[List.mem_filter,List.mem_range];exact h,rfl⟩
theorem nearL_len (v:Venue) (x y r:Int):(nearL v x y r).length≤v.Seats.length:=by
 unfold nearL
 rw[List.length_map]
 have:=List.length_filter_le (fun s=>closeB (v.Seats.getD s default) (Seat.mk 0 x y 0) r) (List.range v.Seats.length)
 rw[List.length_range] at this
 exact this
structure Mk (M:List Bool) (Q:Nat→Prop):Prop where
 len:M.length=40
 get:∀i,i < 40→∃b,M[i]?=some b∧(b=true ↔ Q i)
theorem Mk.congr {M:List Bool} {Q Q':Nat→Prop} (h:Mk M Q) (hq:∀i,i < 40→(Q i ↔ Q' i)):Mk M Q' :=
 ⟨h.len,fun i hi=>by obtain⟨b,e1,e2⟩:=h.get i hi;exact⟨b,e1,e2.trans (hq i hi)⟩⟩
theorem Mk.zero:Mk (List.replicate 40 false) (fun _=>False):=by
 refine⟨by simp,fun i hi=>⟨false,?_,by simp⟩⟩
 rw[List.getElem?_replicate,if_pos hi]
end Go.Px

set_option linter.unusedVariables false
set_option linter.unusedSimpArgs false
namespace Go.Px
open Go Go.Sh
def seatA (v:Venue) (s:Int):Seat:=v.Seats.getD s.toNat default
theorem seat_idx {v:Venue} {s:Int} (h0:0≤s) (h:s < v.Seats.length):idx v.Seats s=some (seatA v s):=by
 obtain⟨j,rfl⟩:=Int.eq_ofNat_of_zero_le h0
 obtain⟨t,e1,e2⟩:=some_get (l:=v.Seats) (i:=j) (by omega)
 rw[e2]
 unfold seatA
 rw[Int.toNat_natCast,getD_of e1]
structure Pre (p:Nat→Bool) (m r:Nat):Prop where
 le:r≤m
 all:∀j,j < r→p j=true
 stop:r < m→p r=false
theorem Pre.uniq {p:Nat→Bool} {m r r':Nat} (h:Pre p m r) (h':Pre p m r'):r=r':=by
 rcases Nat.lt_trichotomy r r' with hl | hl | hl
 ·have h1:=h'.all r hl
  have h2:=h.stop (by have:=h'.le;omega)
  rw[h1] at h2
  cases h2
 ·exact hl
 ·have h1:=h.all r' hl
  have h2:=h'.stop (by have:=h.le;omega)
  rw[h1] at h2
  cases h2
theorem Pre.cut {p:Nat→Bool} {m n r r':Nat} (h:Pre p m r) (h':Pre p n r') (hm:m≤n):r=min m r':=by
 refine h.uniq ⟨by omega,fun j hj=>h'.all j (by omega),fun hl=>?_⟩
 have:min m r'=r':=by omega
 rw[this] at hl ⊢
 exact h'.stop (by omega)
noncomputable def runN (v:Venue) (U:List Bool) (s:Int):Nat:=(ref6_long 4294967290 v U s).getD 0 |>.toNat
end Go.Px

set_option linter.unusedVariables false
set_option linter.unusedSimpArgs false
namespace Go.Px
open Go Go.Sh
end Go.Px

set_option linter.unusedVariables false
set_option linter.unusedSimpArgs false
namespace Go.Px
open Go Go.Sh
abbrev MayP (p:Party):Prop:=1≤p.Size∧p.Size≤8∧0≤p.Wheels∧p.Wheels≤2∧2 * p.Wheels≤p.Size
def kd (v:Venue) (s:Int) (m:Nat) (j:Int):Int:=if 0≤j∧j < m then (seatA v (s+j)).Kind else 0
def kF (v:Venue) (s:Int) (m:Nat):Nat→Nat→Int→Int→Ex (Int×Int) Bool
 | 0,_,w,c => .go (w,c)
 | d+1,j,w,c=>if kd v s m j=1 then (if ¬kd v s m ((j:Int)-1)=2∧¬kd v s m ((j:Int)+1)=2 then .rt false else kF v s m d (j+1) (w+1) c) else if kd v s m j=2 then kF v s m d (j+1) w (c+1) else kF v s m d (j+1) w c
def kindsB (v:Venue) (s:Int) (m:Nat) (want:Int):Bool:=match kF v s m m 0 0 0 with
 | .go (w,c)=>decide (w=want∧(want=0→c≤0))
 | .rt b=>b
noncomputable def placeB (v:Venue) (U:List Bool) (p:Party) (s:Int):Bool:=decide (MayP p∧p.Size≤runN v U s) && kindsB v s p.Size.toNat p.Wheels
/- the reference -/
/- apart -/
def ApP (v:Venue) (s:Int) (m:Nat) (t:Int) (n:Nat):Prop:=∀x,x < m→∀y,y < n→¬s+(x:Int)=t+(y:Int)∧closeB (seatA v (s+x)) (seatA v (t+y)) v.Radius=false
open Classical in
noncomputable def apB (v:Venue) (s:Int) (m:Nat) (t:Int) (n:Nat):Bool:=decide (ApP v s m t n)
end Go.Px

set_option linter.unusedVariables false
set_option linter.unusedSimpArgs false
namespace Go.Px
open Go Go.Sh
noncomputable def plB (v:Venue) (p:Party) (s:Int):Bool:=mayB v && placeB v (usL v) p s
noncomputable def aptB (v:Venue) (p:Party) (s:Int) (q:Party) (t:Int):Bool:=plB v p s && (plB v q t && apB v s p.Size.toNat t q.Size.toNat)
end Go.Px

set_option linter.unusedVariables false
set_option linter.unusedSimpArgs false
namespace Go.Px
open Go Go.Sh
/- venues alike in all but kills, poles and radius -/
end Go.Px

set_option linter.unusedVariables false
set_option linter.unusedSimpArgs false
namespace Go.Px
open Go Go.Sh
section
open Classical
noncomputable def dB (p:Prop):Bool:=decide p
theorem dB_iff {p:Prop} : dB p=true ↔ p:=by unfold dB;exact decide_eq_true_iff
theorem dB_T {p:Prop} (h:p):dB p=true:=dB_iff.2 h
theorem dB_F {p:Prop} (h:¬p):dB p=false:=by
 cases e:dB p
 ·rfl
 ·exact absurd (dB_iff.1 e) h
end
def aI {α:Type} [Inhabited α] (l:List α) (x:Int) : α:=l.getD x.toNat default
theorem idx_aI {α:Type} [Inhabited α] {l:List α} {x:Int} (h0:0≤x) (h:x < (l.length:Int)):idx l x=some (aI l x):=by
 refine idx_get h0 ?_
 unfold aI
 rw[List.getD_eq_getElem?_getD,List.getElem?_eq_getElem (by omega)]
 rfl
theorem mem_aI {α:Type} [Inhabited α] {l:List α} {y : α} (h:y ∈ l):∃i:Nat,i < l.length∧aI l (i:Int)=y:=by
 obtain⟨i,hi,e⟩:=List.getElem_of_mem h
 refine⟨i,hi,?_⟩
 unfold aI
 rw[Int.toNat_natCast,List.getD_eq_getElem?_getD,List.getElem?_eq_getElem hi]
 exact e
abbrev AllMay (L:List Party):Prop:=L.length≤512∧∀i:Nat,i < L.length→MayP (aI L i)
/- maps -/
def pmN (P:List Pin):Nat→List (Int×Int)
 | 0=>[]
 | i+1=>mset (pmN P i) (aI P i).Party (aI P i).First
def pinAt (P:List Pin) (x:Int):Option Int:=mget (pmN P P.length) x
def RiseP (P:List Pin):Prop:=∀i j:Nat,i < j→j < P.length→(aI P i).Party < (aI P j).Party
/- the halls' own words for one hall that may be -/
section
variable {k:Nat} {v:Venue}
end
/- pins -/
structure PinG (v:Venue) (L:List Party) (P:List Pin) (i:Nat):Prop where
 lo:0≤(aI P (i:Int)).Party
 hi:(aI P (i:Int)).Party < L.length
 rise:0 < i→(aI P ((i-1:Nat):Int)).Party < (aI P (i:Int)).Party
 pl:plB v (aI L (aI P (i:Int)).Party) (aI P (i:Int)).First=true
 ap:∀j:Nat,j < i→aptB v (aI L (aI P (i:Int)).Party) (aI P (i:Int)).First (aI L (aI P (j:Int)).Party) (aI P (j:Int)).First=true
abbrev PinOK (v:Venue) (L:List Party) (P:List Pin):Prop:=∀i,i < P.length→PinG v L P i
theorem PinOK.rise {v:Venue} {L:List Party} {P:List Pin} (h:PinOK v L P):RiseP P:=by
 intro i j hij hj
 obtain⟨d,rfl⟩:∃d,j=i+1+d:=⟨j-(i+1),by omega⟩
 clear hij
 induction d with
 | zero =>
  have:=(h (i+1) hj).rise (by omega)
  exact this
 | succ d ih =>
  have:=(h (i+1+(d+1)) hj).rise (by omega)
  rw[show i+1+(d+1)-1=i+1+d by omega] at this
  have:=ih (by omega)
  omega
section
variable {k:Nat} {v:Venue} {L:List Party} {P:List Pin}
abbrev InOK (v:Venue) (L:List Party) (P:List Pin):Prop:=MayV v∧PinOK v L P∧AllMay L
/- plans -/
structure OkAt (v:Venue) (L:List Party) (P:List Pin) (r:List Int) (i:Nat):Prop where
 pin:∀f,pinAt P (i:Int)=some f→aI r (i:Int)=f
 pl:¬aI r (i:Int) = -1→plB v (aI L (i:Int)) (aI r (i:Int))=true
 ap:¬aI r (i:Int) = -1→∀j:Nat,j < i→¬aI r (j:Int) = -1→aptB v (aI L (i:Int)) (aI r (i:Int)) (aI L (j:Int)) (aI r (j:Int))=true
structure PlanP (v:Venue) (L:List Party) (P:List Pin) (r:List Int):Prop where
 inn:InOK v L P
 len:r.length=L.length
 at_:∀i,i < r.length→OkAt v L P r i
end
end Go.Px

set_option linter.unusedVariables false
set_option linter.unusedSimpArgs false
namespace Go.Px
open Go Go.Sh
structure Prob (v:Venue) (L:List Party):Prop where
 may:MayV v
 n1:v.Seats.length≤9
 kl:v.Kills.length≤9
 pl:v.Poles.length≤9
 rad:InP v.Radius 0 24
 l4:L.length≤4
 ps:∀i:Nat,i < L.length→MayP (aI L (i:Int))∧(aI L (i:Int)).Size≤3
theorem Prob.all {v:Venue} {L:List Party} (h:Prob v L):AllMay L:=⟨by have:=h.l4;omega,fun i hi=>(h.ps i hi).1⟩
theorem Prob.inn {v:Venue} {L:List Party} (h:Prob v L) {P:List Pin} (hP:PinOK v L P):InOK v L P:=⟨h.may,hP,h.all⟩
/- all plans -/
theorem drop_aI {α:Type} [Inhabited α] {l:List α} {i:Nat} (h:i < l.length):l.drop i=aI l (i:Int)::l.drop (i+1):=by
 unfold aI
 rw[Int.toNat_natCast,List.getD_eq_getElem?_getD,List.getElem?_eq_getElem h]
 exact List.drop_eq_getElem_cons h
section
variable {k:Nat} {v:Venue} {L:List Party}
/- persons -/
end
end Go.Px

set_option linter.unusedVariables false
set_option linter.unusedSimpArgs false
namespace Go.Px
open Go Go.Sh
theorem law6_told_eq:law6_told 2000=some true:=by decide +kernel
section
variable {k:Nat} {v:Venue}
noncomputable def nearR (v:Venue) (x y r:Int):List Int:=if dB (MayV v∧CoordP x∧CoordP y∧InP r 1 1048576)=true then nearL v x y r else []
theorem geom_Near_eq2 (hv:Small k v) (x y r:Int):geom_Near k v x y r=some (nearR v x y r):=by
 have hb:=hv.b
 unfold nearR
 rcases Classical.em (MayV v∧CoordP x∧CoordP y∧InP r 1 1048576) with h | h
 ·rw[dB_T h,if_pos rfl,geom_Near_eq hv h.1 h.2.1 h.2.2.1 h.2.2.2]
 ·rw[dB_F h,if_neg (by simp)]
  unfold geom_Near
  have e:(Option.bind (venue_May k v) fun r15=>cond (!r15) (some true) (Option.bind (venue_Coord k x) fun r18=>cond (!r18) (some true) (Option.bind (venue_Coord k y) fun r21=>cond (!r21) (some true) (Option.bind (venue_Reach k r) fun r24=>some (!r24)))))=some true:=by
   rw[bindS (venue_May_eq k v hv.hs hv.hk hv.hp (by omega))]
   cases hm:mayB v
   ·rfl
   ·rw[cNT,bindS (venue_Coord_eq _ _)]
    by_cases h1:CoordP x
    ·rw[condNT h1,bindS (venue_Coord_eq _ _)]
     by_cases h2:CoordP y
     ·rw[condNT h2,bindS (venue_Reach_eq _ _),decide_eq_false (fun h3=>h ⟨mayB_iff.1 hm,h1,h2,h3⟩)]
      rfl
     ·rw[condNF h2]
    ·rw[condNF h1]
  rw[bindS e,cond_true]
end
end Go.Px

set_option linter.unusedVariables false
set_option linter.unusedSimpArgs false
namespace Go.Px
open Go Go.Sh
theorem bind_eta {α:Type} {x:Option α} : (Option.bind x fun o=>some o)=x:=by cases x <;> rfl
section
variable {v:Venue} {Y:List Int} {pa:Int→Bool} {a1 j:Int}
theorem take_filter {i:Nat} (hi:i < Y.length):((Y.take (i+1)).filter pa).length=((Y.take i).filter pa).length+if pa (aI Y (i:Int))=true then 1 else 0:=by
 have e:Y.take (i+1)=Y.take i++[aI Y (i:Int)]:=by
  rw[List.take_add_one]
  congr 1
  unfold aI
  rw[Int.toNat_natCast,List.getD_eq_getElem?_getD,List.getElem?_eq_getElem hi]
  rfl
 rw[e,List.filter_append,List.length_append]
 congr 1
 cases h:pa (aI Y (i:Int))
 ·rw[if_neg (by simp),List.filter_cons_of_neg (by rw[h];simp)]
  rfl
 ·rw[if_pos rfl,List.filter_cons_of_pos h]
  rfl
theorem at_filter (hY:Y.Pairwise (· < ·)) {i:Nat} (hi:i < Y.length):(Option.bind (cond (decide ((((Y.take i).filter pa).length:Int) < ((Y.filter pa).length:Int))) (Option.bind (idx (Y.filter pa) (((Y.take i).filter pa).length:Int)) fun y150=>Option.bind (idx Y (i:Int)) fun y152=>some (decide (y150=y152))) (some false)) fun o=>some o)=some (pa (aI Y (i:Int)))∧(pa (aI Y (i:Int))=true→idx (Y.filter pa) (((Y.take i).filter pa).length:Int)=some (aI Y (i:Int))):=by
 have hx:idx Y (i:Int)=some (aI Y (i:Int)):=idx_aI (by omega) (by omega)
 have hsp:Y.filter pa=(Y.take i).filter pa++(Y.drop i).filter pa:=by
  rw[← List.filter_append,List.take_append_drop]
 have hdr:=drop_aI (l:=Y) (i:=i) hi
 have hpw:∀z,z ∈ Y.drop (i+1)→aI Y (i:Int) < z:=by
  have h:=hY.sublist (List.drop_sublist i Y)
  rw[hdr] at h
  exact(List.pairwise_cons.1 h).1
 have hat:∀q,(Y.drop i).filter pa=q→idx (Y.filter pa) (((Y.take i).filter pa).length:Int)=q[0]?:=fun q hq=>by
  unfold idx
  rw[if_pos (by omega),Int.toNat_natCast,hsp,hq,List.getElem?_append_right (Nat.le_refl _),Nat.sub_self]
 generalize hyv:aI Y (i:Int)=y at hx hdr hpw
 cases hp:pa y
 ·have e:(Y.drop i).filter pa=(Y.drop (i+1)).filter pa:=by rw[hdr,List.filter_cons_of_neg (by rw[hp];simp)]
  refine⟨?_,fun h=>by cases h⟩
  by_cases hc:(((Y.take i).filter pa).length:Int) < ((Y.filter pa).length:Int)
  ·rw[condD hc]
   have h0:=hat _ e
   have hl:(Y.filter pa).length=((Y.take i).filter pa).length+((Y.drop (i+1)).filter pa).length:=by rw[hsp,List.length_append,e]
   cases hq:(Y.drop (i+1)).filter pa with
   | nil=>rw[hq] at hl;simp at hl;omega
   | cons z zs =>
    rw[hq] at h0
    have hz:z ∈ (Y.drop (i+1)).filter pa:=by rw[hq];exact List.mem_cons_self
    have:=hpw z (List.mem_filter.1 hz).1
    rw[bindS h0,bindS hx,decide_eq_false (by omega),bindS rfl]
  ·rw[condN hc,bindS rfl]
 ·have e:(Y.drop i).filter pa=y::(Y.drop (i+1)).filter pa:=by rw[hdr,List.filter_cons_of_pos hp]
  have h0:=hat _ e
  have hl:(Y.filter pa).length=((Y.take i).filter pa).length+(((Y.drop (i+1)).filter pa).length+1):=by rw[hsp,List.length_append,e,List.length_cons]
  refine⟨?_,fun _=>h0⟩
  rw[condD (by omega),bindS h0,bindS hx,decide_eq_true rfl,bindS rfl]
theorem gnear_l0 (hY:Y.Pairwise (· < ·)) (hYl:Y.length≤1000) (hj:wr ((IntKind.u64.wrap a1).tmod (IntKind.u64.wrap (v.Seats.length:Int)))=j):∀(d n i:Nat) (own:Bool),i+d=Y.length→d < n→law6_GeomNear_l0 2000 a1 v (Y.filter pa) Y n (((Y.take i).filter pa).length:Int) own (i:Int)=some (.go (((Y.filter pa).length:Int),own || dB (∃m:Nat,i≤m∧m < Y.length∧pa (aI Y (m:Int))=true∧aI Y (m:Int)=j)))
 | d,0,i,own,_,h=>absurd h (by omega)
 | 0,n+1,i,own,hi,_=>by
  rw[law6_GeomNear_l0,condN (by omega),List.take_of_length_le (by omega),dB_F (fun⟨m,h1,h2,_⟩=>by omega),Bool.or_false]
 | d+1,n+1,i,own,hi,hd=>by
  obtain⟨e1,e2⟩:=at_filter (pa:=pa) hY (i:=i) (by omega)
  have htf:=take_filter (pa:=pa) (Y:=Y) (i:=i) (by omega)
  have hfl:((Y.take i).filter pa).length≤1000:=by
   have:=List.length_filter_le pa (Y.take i)
   rw[List.length_take] at this
   omega
  have ih:=fun own=>gnear_l0 hY hYl hj d n (i+1) own (by omega) (by omega)
  rw[htf] at ih
  have hex:dB (∃m:Nat,i≤m∧m < Y.length∧pa (aI Y (m:Int))=true∧aI Y (m:Int)=j)=((pa (aI Y (i:Int)) && decide (aI Y (i:Int)=j)) || dB (∃m:Nat,i+1≤m∧m < Y.length∧pa (aI Y (m:Int))=true∧aI Y (m:Int)=j)):=by
   rw[Bool.eq_iff_iff,dB_iff,Bool.or_eq_true,Bool.and_eq_true,dB_iff,decide_eq_true_iff]
   constructor
   ·rintro ⟨m,a,b,c⟩
    rcases Nat.lt_or_ge i m with x | x
    ·exact .inr ⟨m,x,b,c⟩
    ·exact .inl (by rw[show i=m by omega];exact c)
   ·rintro (h | ⟨m,a,b,c⟩)
    ·exact⟨i,Nat.le_refl _,by omega,h⟩
    ·exact⟨m,by omega,b,c⟩
  rw[hex]
  have hrest:(Option.bind (cond (decide ((((Y.take i).filter pa).length:Int) < ((Y.filter pa).length:Int))) (Option.bind (idx (Y.filter pa) (((Y.take i).filter pa).length:Int)) fun y172=>Option.bind (idx Y (i:Int)) fun y174=>some (decide (y172=y174))) (some false)) fun o163=>cond o163 (cond own (law6_GeomNear_l0 2000 a1 v (Y.filter pa) Y n (wr ((((Y.take i).filter pa).length:Int)+1)) true (wr ((i:Int)+1))) (Option.bind (idx (Y.filter pa) (((Y.take i).filter pa).length:Int)) fun y178=>law6_GeomNear_l0 2000 a1 v (Y.filter pa) Y n (wr ((((Y.take i).filter pa).length:Int)+1)) (decide (y178=(wr ((IntKind.u64.wrap a1).tmod (IntKind.u64.wrap (v.Seats.length:Int)))))) (wr ((i:Int)+1)))) (law6_GeomNear_l0 2000 a1 v (Y.filter pa) Y n (((Y.take i).filter pa).length:Int) own (wr ((i:Int)+1))))=some (.go (((Y.filter pa).length:Int),own || ((pa (aI Y (i:Int)) && decide (aI Y (i:Int)=j)) || dB (∃m:Nat,i+1≤m∧m < Y.length∧pa (aI Y (m:Int))=true∧aI Y (m:Int)=j)))):=by
   have e1':(cond (decide ((((Y.take i).filter pa).length:Int) < ((Y.filter pa).length:Int))) (Option.bind (idx (Y.filter pa) (((Y.take i).filter pa).length:Int)) fun y172=>Option.bind (idx Y (i:Int)) fun y174=>some (decide (y172=y174))) (some false))=some (pa (aI Y (i:Int))):=by
    have:=e1
    rwa [bind_eta] at this
   rw[bindS e1',wr_succ (by omega),wr_succ (by omega),hj]
   cases hp:pa (aI Y (i:Int))
   ·rw[hp,if_neg (by simp)] at ih
    have:=ih own
    rw[cond_false,Bool.false_and,Bool.false_or]
    exact this
   ·rw[hp,if_pos rfl] at ih
    rw[cond_true,Bool.true_and]
    cases own
    ·rw[cond_false,bindS (e2 hp),ih,Bool.false_or]
    ·rw[cond_true,ih,Bool.true_or,Bool.true_or]
  rw[law6_GeomNear_l0,condD (by omega)]
  by_cases h0:0 < (i:Int)
  ·have hlt:aI Y ((i-1:Nat):Int) < aI Y (i:Int):=by
    have h:=List.pairwise_iff_getElem.1 hY (i-1) i (by omega) (by omega) (by omega)
    unfold aI
    rw[Int.toNat_natCast,Int.toNat_natCast,List.getD_eq_getElem?_getD,List.getD_eq_getElem?_getD,List.getElem?_eq_getElem (by omega),List.getElem?_eq_getElem (by omega)]
    exact h
   rw[condD h0,bindS (idx_aI (by omega) (by omega)),wr_pred (by omega) (by omega),bindS (idx_aI (by omega) (by omega)),condN (by omega)]
   exact hrest
  ·rw[condN h0]
   exact hrest
theorem near_sorted (x y r:Int):(nearL v x y r).Pairwise (· < ·):=by
 unfold nearL
 refine List.Pairwise.map _ (fun a b h=>?_) (List.Pairwise.filter _ (List.pairwise_lt_range))
 exact Int.ofNat_lt.2 h
theorem near_filter {x y a b:Int} (ha:1≤a) (hab:a≤b) (hb:b≤100):nearL v x y a=(nearL v x y b).filter (fun z=>closeB (v.Seats.getD z.toNat default) (Seat.mk 0 x y 0) a):=by
 unfold nearL
 rw[List.filter_map,List.filter_filter]
 congr 1
 refine List.filter_congr fun s _=>?_
 show closeB _ _ _=(closeB (v.Seats.getD (Int.toNat (s:Int)) default) _ _ && closeB _ _ _)
 rw[Int.toNat_natCast]
 unfold closeB
 have h1:a * a≤b * b:=Int.mul_le_mul hab hab (by omega) (by omega)
 have h2:b * b≤100 * 100:=Int.mul_le_mul hb hb (by omega) (by omega)
 have h3:0≤a * a:=Int.mul_nonneg (by omega) (by omega)
 rw[wr_id (x:=a * a) (by omega) (by omega),wr_id (x:=b * b) (by omega) (by omega)]
 by_cases h:far (v.Seats.getD s default) (Seat.mk 0 x y 0) < a * a
 ·rw[decide_eq_true h,decide_eq_true (by omega)]
  rfl
 ·rw[decide_eq_false h,Bool.false_and]
theorem GeomNear_true (a0:List Int) (h0:okLI a0) (a1:Int) (h1:okI a1) (a2:Int) (h2:okI a2) (a3:Int) (h3:okI a3):∃k,law6_GeomNear k a0 a1 a2 a3=some true:=by
 refine⟨2000,?_⟩
 obtain⟨v,e,hv'⟩:=law3_Make_eq 2000 a0 25 (by omega) (by omega) (by omega)
 have e:law3_Make 2000 a0 25=some v:=e
 have hM:=hv'.may
 have hn0:=hM.n0
 have hn1:=hv'.n1
 have hkl:=hv'.kl
 have hpl:=hv'.pl
 have hv:Small 2000 v:=⟨by omega,by omega,by omega,by omega,by omega⟩
 obtain⟨u0,u1⟩:=um a1 (v.Seats.length:Int) (by omega)
 have hw:IntKind.u64.wrap (v.Seats.length:Int)=(v.Seats.length:Int):=wu_id (by omega) (by omega)
 obtain⟨x0,x1⟩:=um a2 100 (by omega)
 obtain⟨y0,y1⟩:=um a3 100 (by omega)
 unfold law6_GeomNear
 have ho:∃p q:Int,(cond (decide ((wr (1+(wr ((IntKind.u64.wrap a3).tmod 100)))) < (wr (1+(wr ((IntKind.u64.wrap a2).tmod 100)))))) (some (wr (1+(wr ((IntKind.u64.wrap a3).tmod 100))),wr (1+(wr ((IntKind.u64.wrap a2).tmod 100))))) (some (wr (1+(wr ((IntKind.u64.wrap a2).tmod 100))),wr (1+(wr ((IntKind.u64.wrap a3).tmod 100))))))=some (p,q)∧1≤p∧p≤q∧q≤100:=by
  rw[wr_id (x:=(IntKind.u64.wrap a2).tmod 100) (by omega) (by omega),wr_id (x:=(IntKind.u64.wrap a3).tmod 100) (by omega) (by omega),wr_id (x:=1+(IntKind.u64.wrap a2).tmod 100) (by omega) (by omega),wr_id (x:=1+(IntKind.u64.wrap a3).tmod 100) (by omega) (by omega)]
  by_cases h:1+(IntKind.u64.wrap a3).tmod 100 < 1+(IntKind.u64.wrap a2).tmod 100
  ·rw[condD h];exact⟨_,_,rfl,by omega,by omega,by omega⟩
  ·rw[condN h];exact⟨_,_,rfl,by omega,by omega,by omega⟩
 obtain⟨p,q,eo,hp,hpq,hq⟩:=ho
 have hjw:wr ((IntKind.u64.wrap a1).tmod (IntKind.u64.wrap (v.Seats.length:Int)))=(IntKind.u64.wrap a1).tmod (v.Seats.length:Int):=by rw[hw,wr_id (by omega) (by omega)]
 obtain⟨j,hj⟩:=Int.eq_ofNat_of_zero_le u0
 rw[hj] at hjw u1
 have hi:idx v.Seats (j:Int)=some (seatA v (j:Int)):=seat_idx (by omega) u1
 have hs:=hM.seats j (by omega) (seatA v (j:Int)) (by
  unfold seatA
  rw[Int.toNat_natCast,List.getD_eq_getElem?_getD,List.getElem?_eq_getElem (show j < v.Seats.length by omega)]
  rfl)
 have hx:=hs.1.2.1
 have hy:=hs.1.2.2.1
 rw[bindS e,gdD (by rw[hw];omega),bindS eo]
 dsimp only
 rw[hjw,bindS hi,bindS hi,bindS (geom_Near_eq hv hM hx hy ⟨by omega,by omega⟩),bindS hi,bindS hi,bindS (geom_Near_eq hv hM hx hy ⟨by omega,by omega⟩)]
 have hnl:=nearL_len v (seatA v (j:Int)).X (seatA v (j:Int)).Y q
 have hel:=gnear_l0 (v:=v) (a1:=a1) (j:=(j:Int)) (pa:=fun z=>closeB (v.Seats.getD z.toNat default) (Seat.mk 0 (seatA v (j:Int)).X (seatA v (j:Int)).Y 0) p) (near_sorted (v:=v) (seatA v (j:Int)).X (seatA v (j:Int)).Y q) (by omega) hjw (nearL v (seatA v (j:Int)).X (seatA v (j:Int)).Y q).length 2000 0 false (by omega) (by omega)
 rw[← near_filter hp hpq hq] at hel
 have hel:law6_GeomNear_l0 2000 a1 v (nearL v (seatA v (j:Int)).X (seatA v (j:Int)).Y p) (nearL v (seatA v (j:Int)).X (seatA v (j:Int)).Y q) 2000 0 false 0=_:=hel
 have hown:(j:Int) ∈ nearL v (seatA v (j:Int)).X (seatA v (j:Int)).Y p:=by
  rw[nearL_mem]
  refine⟨by omega,?_⟩
  have h3:1 * 1≤p * p:=Int.mul_le_mul hp hp (by omega) (by omega)
  have h4:p * p≤100 * 100:=Int.mul_le_mul (by omega) (by omega) (by omega) (by omega)
  unfold closeB
  rw[wr_id (by omega) (by omega)]
  have hz:far (v.Seats.getD j default) (Seat.mk 0 (seatA v (j:Int)).X (seatA v (j:Int)).Y 0)=0:=by
   have hsd:v.Seats.getD j default=seatA v (j:Int):=by unfold seatA;rw[Int.toNat_natCast]
   rw[hsd]
   unfold far
   split
   ·simp only[Int.sub_self,Int.mul_zero,Int.add_zero]
   ·rfl
  rw[hz,decide_eq_true (by omega)]
 rw[near_filter hp hpq hq,List.mem_filter] at hown
 obtain⟨m,hm,em⟩:=mem_aI hown.1
 have hnn:nearR v 0 0 0=[]:=by
  unfold nearR
  rw[dB_F (fun h=>by have:=h.2.2.2.1;omega),if_neg (by simp)]
 rw[bindS hel,elim_go,bindS law6_told_eq,cond_true]
 dsimp only
 rw[condD rfl,Bool.false_or,dB_T ⟨m,by omega,hm,by rw[em];exact hown.2,em⟩,cond_true,bindS (geom_Near_eq2 hv 0 0 0),hnn,bindS (sameInts_refl _ _ (by simp) (by simp))]
end
end Go.Px
