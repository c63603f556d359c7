/- The plain law, in parts: Base, Scan, Venue, Make, Kill, KillAsks, KillMore, KillNear, Run, Runs, Place, PlaceTop, PlaceApart, Plan, Plans, Geom, GeomAsks. -/
import Derived.Test.YtlfpkjlaajfjnaaX
set_option linter.unusedVariables false
namespace Go.Px
open Go Go.Sh
theorem wr_id {x:Int} (h1 : -9223372036854775808≤x) (h2:x≤9223372036854775807):wr x=x:=w64 h1 h2
section
variable {α β:Type}
theorem condT {c:Bool} {a b : α} (h:c=true):cond c a b=a:=by rw[h];rfl
theorem condF {c:Bool} {a b : α} (h:c=false):cond c a b=b:=by rw[h];rfl
theorem condD {p:Prop} {_:Decidable p} {a b : α} (h:p):cond (decide p) a b=a:=by rw[decide_eq_true h];rfl
theorem condN {p:Prop} {_:Decidable p} {a b : α} (h:¬p):cond (decide p) a b=b:=by rw[decide_eq_false h];rfl
theorem gdD {p:Prop} {_:Decidable p} {r:Option α} (h:p):gd (decide p) r=r:=by rw[decide_eq_true h];rfl
theorem elim_go {γ:Type} {a : α} {f : α → γ} {g : β → γ} : Ex.elim (.go a) f g=f a:=(exg rfl).symm
theorem elim_rt {γ:Type} {b : β} {f : α → γ} {g : β → γ} : Ex.elim (.rt b) f g=g b:=(exr rfl).symm
theorem bindS {x:Option α} {a : α} {f : α→Option β} (h:x=some a):Option.bind x f=f a:=by rw[h];rfl
theorem idx_get {l:List α} {i:Int} {y : α} (h0:0≤i) (h:l[i.toNat]?=some y):idx l i=some y:=by unfold idx;rw[if_pos h0,h]
theorem idx_nat {l:List α} {n:Nat} (h:n < l.length):idx l (n:Int)=some l[n]:=idx_get (by omega) (by rw[Int.toNat_natCast];exact List.getElem?_eq_getElem h)
end
theorem wr_succ {i:Nat} (h:i < 4294967296):wr ((i:Int)+1)=((i+1:Nat):Int):=by rw[wr_id (by omega) (by omega)];omega
end Go.Px

set_option linter.unusedVariables false
namespace Go.Px
open Go Go.Sh
section
variable {ρ α:Type}
theorem scan_go {f:Nat→Int→Option (Ex Unit ρ)} {len:Nat} {good:Nat→Prop}
  (hs:∀n i:Nat,i < len→good i→f (n+1) (i:Int)=f n ((i+1:Nat):Int))
  (he:∀n,f (n+1) (len:Int)=some (.go ())):∀d n i:Nat,i+d=len→d < n→(∀j,i≤j→j < len→good j)→f n (i:Int)=some (.go ())
 | d,0,i,_,h,_=>absurd h (by omega)
 | 0,n+1,i,hi,_,_=>by
  obtain rfl:i=len:=by omega
  exact he n
 | d+1,n+1,i,hi,h,hg=>by
  rw[hs n i (by omega) (hg i (by omega) (by omega))]
  exact scan_go hs he d n (i+1) (by omega) (by omega) (fun j h1 h2=>hg j (by omega) h2)
theorem scan_rt {f:Nat→Int→Option (Ex Unit ρ)} {len:Nat} {good:Nat→Prop} {r : ρ}
  (hs:∀n i:Nat,i < len→good i→f (n+1) (i:Int)=f n ((i+1:Nat):Int))
  (hf:∀n i:Nat,i < len→¬good i→f (n+1) (i:Int)=some (.rt r)):∀d n i:Nat,i+d=len→d < n→(∃j,i≤j∧j < len∧¬good j)→f n (i:Int)=some (.rt r)
 | d,0,i,_,h,_=>absurd h (by omega)
 | 0,n+1,i,hi,_,hg=>by
  obtain⟨j,h1,h2,_⟩:=hg
  omega
 | d+1,n+1,i,hi,h,hg=>by
  rcases Classical.em (good i) with hh | hh
  ·rw[hs n i (by omega) hh]
   refine scan_rt hs hf d n (i+1) (by omega) (by omega) ?_
   obtain⟨j,h1,h2,h3⟩:=hg
   refine⟨j,?_,h2,h3⟩
   rcases Nat.lt_or_ge i j with hl | hl
   ·omega
   ·exact absurd (show good j from by rw[show j=i by omega];exact hh) h3
  ·exact hf n i (by omega) hh
theorem scan {f:Nat→Int→Option (Ex Unit ρ)} {len:Nat} (good:Nat→Prop) {r : ρ}
  (hs:∀n i:Nat,i < len→good i→f (n+1) (i:Int)=f n ((i+1:Nat):Int))
  (hf:∀n i:Nat,i < len→¬good i→f (n+1) (i:Int)=some (.rt r))
  (he:∀n,f (n+1) (len:Int)=some (.go ())) {k:Nat} (hk:len < k) :
  ((∀j,j < len→good j)∧f k 0=some (.go ()))∨((¬∀j,j < len→good j)∧f k 0=some (.rt r)):=by
 rcases Classical.em (∀j,j < len→good j) with h | h
 ·exact .inl ⟨h,scan_go hs he len k 0 (by omega) hk fun j _ h2=>h j h2⟩
 ·refine .inr ⟨h,scan_rt hs hf len k 0 (by omega) hk ?_⟩
  obtain⟨j,hj⟩:=Classical.not_forall.1 h
  obtain⟨h1,h2⟩:=Classical.not_imp.1 hj
  exact⟨j,by omega,h1,h2⟩
theorem gather {f:Nat→List α→Int→Option (List α)} {len c:Nat} (p:Nat→Bool) (g:Nat → α)
  (hs:∀(n i:Nat) v,i < len→v.length≤c+i→f (n+1) v (i:Int)=f n (if p i then v++[g i] else v) ((i+1:Nat):Int))
  (he:∀n v,f (n+1) v (len:Int)=some v):∀(d n i:Nat) v,i+d=len→d < n→v.length≤c+i→f n v (i:Int)=some (v++((List.range' i d).filter p).map g)
 | d,0,i,v,_,h,_=>absurd h (by omega)
 | 0,n+1,i,v,hi,_,_=>by
  obtain rfl:i=len:=by omega
  rw[he]
  simp
 | d+1,n+1,i,v,hi,h,hv=>by
  rw[hs n i v (by omega) hv]
  have:=gather p g hs he d n (i+1) (if p i then v++[g i] else v) (by omega) (by omega) (by split <;> (try rw[List.length_append,List.length_singleton]) <;> omega)
  rw[this,List.range'_succ,List.filter_cons]
  cases p i <;> simp
theorem gather0 {f:Nat→List α→Int→Option (List α)} {len c:Nat} (p:Nat→Bool) (g:Nat → α)
  (hs:∀(n i:Nat) v,i < len→v.length≤c+i→f (n+1) v (i:Int)=f n (if p i then v++[g i] else v) ((i+1:Nat):Int))
  (he:∀n v,f (n+1) v (len:Int)=some v) {k:Nat} (hk:len < k) (v:List α) (hv:v.length≤c):f k v 0=some (v++((List.range len).filter p).map g):=by
 rw[List.range_eq_range']
 exact gather p g hs he len k 0 v (by omega) hk (by omega)
end
theorem wr_pred {i:Nat} (h:0 < i) (h2:i < 4294967296):wr ((i:Int)-1)=((i-1:Nat):Int):=by rw[wr_id (by omega) (by omega)];omega
theorem cNT {α:Type} {a b : α} : cond (!true) a b=b:=rfl
theorem cNF {α:Type} {a b : α} : cond (!false) a b=a:=rfl
theorem condNT {p:Prop} [Decidable p] {α:Type} {a b : α} (h:p):cond (!decide p) a b=b:=by rw[decide_eq_true h];rfl
theorem condNF {p:Prop} [Decidable p] {α:Type} {a b : α} (h:¬p):cond (!decide p) a b=a:=by rw[decide_eq_false h];rfl
theorem condAnd {p q:Prop} [Decidable p] [Decidable q] {x:Option Bool} (h:x=some (decide q)):cond (decide p) x (some false)=some (decide (p∧q)):=by
 by_cases hp:p
 ·rw[condD hp,h];simp [hp]
 ·rw[condN hp];simp [hp]
end Go.Px

set_option linter.unusedVariables false
set_option linter.unusedSimpArgs false
namespace Go.Px
open Go Go.Sh
abbrev InP (x a b:Int):Prop:=a≤x∧x≤b
abbrev CoordP (x:Int):Prop:=InP x (-1048576) 1048576
abbrev SeatP (s:Seat):Prop:=InP s.Row 0 999∧CoordP s.X∧CoordP s.Y∧InP s.Kind 0 2
abbrev LessP (a b:Seat):Prop:=a.Row < b.Row∨(a.Row=b.Row∧a.X < b.X)
abbrev SeatsP (l:List Seat):Prop:=∀j,j < l.length→∀s,l[j]?=some s→SeatP s∧(0 < j→∀r,l[j-1]?=some r→LessP r s)
abbrev KillsP (l:List Int) (m:Int):Prop:=∀j,j < l.length→∀s,l[j]?=some s→0≤s∧s < m∧(0 < j→∀r,l[j-1]?=some r→r < s)
abbrev PolesP (l:List Pole):Prop:=∀j,j < l.length→∀s,l[j]?=some s→CoordP s.X∧CoordP s.Y∧InP s.R 1 1048576
structure MayV (v:Venue):Prop where
 seats:SeatsP v.Seats
 n0:1≤v.Seats.length
 n1:v.Seats.length≤4096
 gap:InP v.Gap 1 1048576
 radius:InP v.Radius 0 1048576
 kills:KillsP v.Kills v.Seats.length
 k1:v.Kills.length≤200
 poles:PolesP v.Poles
 p1:v.Poles.length≤200
open Classical in
noncomputable def mayB (v:Venue):Bool:=decide (MayV v)
open Classical in
theorem mayB_iff {v:Venue} : mayB v=true ↔ MayV v:=by unfold mayB;exact decide_eq_true_iff
theorem venue_in_eq (k:Nat) (x a b:Int):venue_in k x a b=some (decide (InP x a b)):=by
 unfold venue_in
 exact condAnd rfl
theorem ref2_in_eq (k:Nat) (x a b:Int):ref2_in k x a b=some (decide (InP x a b)):=by
 unfold ref2_in
 exact condAnd rfl
theorem venue_Coord_eq (k:Nat) (x:Int):venue_Coord k x=some (decide (CoordP x)):=by
 unfold venue_Coord
 rw[bindS (venue_in_eq _ _ _ _)]
theorem ref2_coord_eq (k:Nat) (x:Int):ref2_coord k x=some (decide (CoordP x)):=by
 unfold ref2_coord
 rw[bindS (ref2_in_eq _ _ _ _)]
theorem ref6_coord_eq (k:Nat) (x:Int):ref6_coord k x=some (decide (CoordP x)):=by
 unfold ref6_coord
 exact condAnd rfl
theorem venue_Row_eq (k:Nat) (x:Int):venue_Row k x=some (decide (InP x 0 999)):=by
 unfold venue_Row
 rw[bindS (venue_in_eq _ _ _ _)]
theorem venue_Reach_eq (k:Nat) (x:Int):venue_Reach k x=some (decide (InP x 1 1048576)):=by
 unfold venue_Reach
 rw[bindS (venue_in_eq _ _ _ _)]
theorem venue_seat_eq (k:Nat) (s:Seat):venue_seat k s=some (decide (SeatP s)):=by
 unfold venue_seat
 have h:(Option.bind (venue_Row k s.Row) fun r2=>cond r2 (Option.bind (venue_Coord k s.X) fun r5=>cond r5 (Option.bind (venue_Coord k s.Y) fun r8=>some r8) (some false)) (some false))=some (decide (InP s.Row 0 999∧CoordP s.X∧CoordP s.Y)):=by
  rw[bindS (venue_Row_eq _ _)]
  refine condAnd ?_
  rw[bindS (venue_Coord_eq _ _)]
  refine condAnd ?_
  rw[bindS (venue_Coord_eq _ _)]
 rw[h]
 by_cases h0:s.Kind=0
 ·rw[condD h0]
  congr 1
  rw[decide_eq_decide]
  omega
 rw[condN h0]
 by_cases h1:s.Kind=1
 ·rw[condD h1]
  congr 1
  rw[decide_eq_decide]
  omega
 rw[condN h1]
 by_cases h2:s.Kind=2
 ·rw[condD h2]
  congr 1
  rw[decide_eq_decide]
  omega
 rw[condN h2]
 congr 1
 symm
 rw[decide_eq_false_iff_not]
 omega
theorem venue_Less_eq (k:Nat) (a b:Seat):venue_Less k a b=some (decide (LessP a b)):=by
 unfold venue_Less
 by_cases h:a.Row < b.Row
 ·rw[condD h,decide_eq_true (.inl h)]
 ·rw[condN h,condAnd rfl]
  congr 1
  rw[decide_eq_decide]
  omega
theorem ref2_Less_eq (k:Nat) (a b:Seat):ref2_Less k a b=some (decide (LessP a b)):=by
 unfold ref2_Less
 by_cases h:a.Row < b.Row
 ·rw[condD h,decide_eq_true (.inl h)]
 ·rw[condN h,condAnd rfl]
  congr 1
  rw[decide_eq_decide]
  omega
theorem some_get {α:Type} {l:List α} {i:Nat} (h:i < l.length):∃s,l[i]?=some s∧idx l (i:Int)=some s:=⟨l[i],List.getElem?_eq_getElem h,idx_nat h⟩
theorem venue_seats_eq (k:Nat) (l:List Seat) (hl:l.length < k) (hb:l.length≤4294967295):∃b,venue_seats k l=some b∧(b=true ↔ SeatsP l∧1≤l.length∧l.length≤4096):=by
 unfold venue_seats
 have hs:∀n i:Nat,i < l.length→(∀s,l[i]?=some s→SeatP s∧(0 < i→∀r,l[i-1]?=some r→LessP r s))→venue_seats_l0 k l (n+1) (i:Int)=venue_seats_l0 k l n ((i+1:Nat):Int):=by
  intro n i hi hg
  obtain⟨s,e1,e2⟩:=some_get hi
  obtain⟨g1,g2⟩:=hg s e1
  rw[venue_seats_l0,condD (by omega),bindS e2,bindS (venue_seat_eq _ _),condNT g1,wr_succ (by omega)]
  by_cases h0:0 < i
  ·obtain⟨r,f1,f2⟩:=some_get (l:=l) (i:=i-1) (by omega)
   rw[condD (by omega),wr_pred h0 (by omega),bindS f2,bindS (venue_Less_eq _ _ _),condNT (g2 h0 r f1)]
  ·rw[condN (by omega)]
 have hf:∀n i:Nat,i < l.length→¬(∀s,l[i]?=some s→SeatP s∧(0 < i→∀r,l[i-1]?=some r→LessP r s))→venue_seats_l0 k l (n+1) (i:Int)=some (.rt false):=by
  intro n i hi hg
  obtain⟨s,e1,e2⟩:=some_get hi
  rw[venue_seats_l0,condD (by omega),bindS e2,bindS (venue_seat_eq _ _)]
  by_cases g1:SeatP s
  ·rw[condNT g1]
   by_cases h0:0 < i
   ·obtain⟨r,f1,f2⟩:=some_get (l:=l) (i:=i-1) (by omega)
    rw[condD (by omega),wr_pred h0 (by omega),bindS f2,bindS (venue_Less_eq _ _ _),condNF]
    intro hh
    refine hg fun s' e'=>?_
    rw[e1] at e'
    cases e'
    refine⟨g1,fun _ r' f'=>?_⟩
    rw[f1] at f'
    cases f'
    exact hh
   ·refine absurd (fun s' e'=>?_) hg
    rw[e1] at e'
    cases e'
    exact⟨g1,fun h=>absurd h h0⟩
  ·rw[condNF g1]
 have he:∀n,venue_seats_l0 k l (n+1) (l.length:Int)=some (.go ()):=fun n=>by rw[venue_seats_l0,condN (by omega)]
 rcases scan _ hs hf he hl with⟨g,e⟩ | ⟨g,e⟩
 ·rw[bindS e,elim_go,condAnd rfl]
  refine⟨_,rfl,?_⟩
  rw[decide_eq_true_iff]
  constructor
  ·rintro ⟨a,b⟩;exact⟨g,by omega,by omega⟩
  ·rintro ⟨_,a,b⟩;omega
 ·rw[bindS e,elim_rt]
  exact⟨_,rfl,by simp;exact fun h=>absurd h g⟩
theorem ref2_seats_eq (k:Nat) (l:List Seat) (hl:l.length < k) (hb:l.length≤4294967295):∃b,ref2_seats k l=some b∧(b=true ↔ SeatsP l∧1≤l.length∧l.length≤4096):=by
 unfold ref2_seats
 have hs:∀n i:Nat,i < l.length→(∀s,l[i]?=some s→SeatP s∧(0 < i→∀r,l[i-1]?=some r→LessP r s))→ref2_seats_l0 k l (n+1) (i:Int)=ref2_seats_l0 k l n ((i+1:Nat):Int):=by
  intro n i hi hg
  obtain⟨s,e1,e2⟩:=some_get hi
  obtain⟨⟨g1,g3,g4,g5⟩,g2⟩:=hg s e1
  rw[ref2_seats_l0,condD (by omega),bindS e2,bindS (ref2_in_eq _ _ _ _),condNT g1,bindS (ref2_coord_eq _ _),condNT g3,bindS (ref2_coord_eq _ _),condNT g4,bindS (ref2_in_eq _ _ _ _),condNT g5,wr_succ (by omega)]
  by_cases h0:0 < i
  ·obtain⟨r,f1,f2⟩:=some_get (l:=l) (i:=i-1) (by omega)
   rw[condD (by omega),wr_pred h0 (by omega),bindS f2,bindS (ref2_Less_eq _ _ _),condNT (g2 h0 r f1)]
  ·rw[condN (by omega)]
 have hf:∀n i:Nat,i < l.length→¬(∀s,l[i]?=some s→SeatP s∧(0 < i→∀r,l[i-1]?=some r→LessP r s))→ref2_seats_l0 k l (n+1) (i:Int)=some (.rt false):=by
  intro n i hi hg
  obtain⟨s,e1,e2⟩:=some_get hi
  rw[ref2_seats_l0,condD (by omega),bindS e2,bindS (ref2_in_eq _ _ _ _),bindS (ref2_coord_eq _ _),bindS (ref2_coord_eq _ _),bindS (ref2_in_eq _ _ _ _)]
  by_cases g1:InP s.Row 0 999
  ·rw[condNT g1]
   by_cases g3:CoordP s.X
   ·rw[condNT g3]
    by_cases g4:CoordP s.Y
    ·rw[condNT g4]
     by_cases g5:InP s.Kind 0 2
     ·rw[condNT g5]
      by_cases h0:0 < i
      ·obtain⟨r,f1,f2⟩:=some_get (l:=l) (i:=i-1) (by omega)
       rw[condD (by omega),wr_pred h0 (by omega),bindS f2,bindS (ref2_Less_eq _ _ _),condNF]
       intro hh
       refine hg fun s' e'=>?_
       rw[e1] at e'
       cases e'
       refine⟨⟨g1,g3,g4,g5⟩,fun _ r' f'=>?_⟩
       rw[f1] at f'
       cases f'
       exact hh
      ·refine absurd (fun s' e'=>?_) hg
       rw[e1] at e'
       cases e'
       exact⟨⟨g1,g3,g4,g5⟩,fun h=>absurd h h0⟩
     ·rw[condNF g5]
    ·rw[condNF g4]
   ·rw[condNF g3]
  ·rw[condNF g1]
 have he:∀n,ref2_seats_l0 k l (n+1) (l.length:Int)=some (.go ()):=fun n=>by rw[ref2_seats_l0,condN (by omega)]
 rcases scan _ hs hf he hl with⟨g,e⟩ | ⟨g,e⟩
 ·rw[bindS e,elim_go,condAnd rfl]
  refine⟨_,rfl,?_⟩
  rw[decide_eq_true_iff]
  constructor
  ·rintro ⟨a,b⟩;exact⟨g,by omega,by omega⟩
  ·rintro ⟨_,a,b⟩;omega
 ·rw[bindS e,elim_rt]
  exact⟨_,rfl,by simp;exact fun h=>absurd h g⟩
theorem venue_kills_eq (k:Nat) (l:List Int) (m:Int) (hl:l.length < k) (hb:l.length≤4294967295):∃b,venue_kills k l m=some b∧(b=true ↔ KillsP l m∧l.length≤200):=by
 unfold venue_kills
 have hs:∀n i:Nat,i < l.length→(∀s,l[i]?=some s→0≤s∧s < m∧(0 < i→∀r,l[i-1]?=some r→r < s))→venue_kills_l0 k l m (n+1) (i:Int)=venue_kills_l0 k l m n ((i+1:Nat):Int):=by
  intro n i hi hg
  obtain⟨s,e1,e2⟩:=some_get hi
  obtain⟨g1,g2,g3⟩:=hg s e1
  rw[venue_kills_l0,condD (by omega),bindS e2,condN (by omega),condN (by omega),wr_succ (by omega)]
  by_cases h0:0 < i
  ·obtain⟨r,f1,f2⟩:=some_get (l:=l) (i:=i-1) (by omega)
   have:=g3 h0 r f1
   rw[condD (by omega),wr_pred h0 (by omega),bindS f2,condN (by omega)]
  ·rw[condN (by omega)]
 have hf:∀n i:Nat,i < l.length→¬(∀s,l[i]?=some s→0≤s∧s < m∧(0 < i→∀r,l[i-1]?=some r→r < s))→venue_kills_l0 k l m (n+1) (i:Int)=some (.rt false):=by
  intro n i hi hg
  obtain⟨s,e1,e2⟩:=some_get hi
  rw[venue_kills_l0,condD (by omega),bindS e2]
  by_cases g1:s < 0
  ·rw[condD g1]
  rw[condN g1]
  by_cases g2:m≤s
  ·rw[condD g2]
  rw[condN g2]
  by_cases h0:0 < i
  ·obtain⟨r,f1,f2⟩:=some_get (l:=l) (i:=i-1) (by omega)
   rw[condD (by omega),wr_pred h0 (by omega),bindS f2,condD]
   apply Classical.byContradiction
   intro hh
   refine hg fun s' e'=>?_
   rw[e1] at e'
   cases e'
   refine⟨by omega,by omega,fun _ r' f'=>?_⟩
   rw[f1] at f'
   cases f'
   omega
  ·refine absurd (fun s' e'=>?_) hg
   rw[e1] at e'
   cases e'
   exact⟨by omega,by omega,fun h=>absurd h h0⟩
 have he:∀n,venue_kills_l0 k l m (n+1) (l.length:Int)=some (.go ()):=fun n=>by rw[venue_kills_l0,condN (by omega)]
 rcases scan _ hs hf he hl with⟨g,e⟩ | ⟨g,e⟩
 ·rw[bindS e,elim_go]
  refine⟨_,rfl,?_⟩
  rw[decide_eq_true_iff]
  constructor
  ·intro a;exact⟨g,by omega⟩
  ·rintro ⟨_,a⟩;omega
 ·rw[bindS e,elim_rt]
  exact⟨_,rfl,by simp;exact fun h=>absurd h g⟩
theorem ref2_kills_eq (k:Nat) (l:List Int) (m:Int) (hl:l.length < k) (hb:l.length≤4294967295) (hm:0≤m∧m≤4294967295):∃b,ref2_kills k l m=some b∧(b=true ↔ KillsP l m∧l.length≤200):=by
 unfold ref2_kills
 have hs:∀n i:Nat,i < l.length→(∀s,l[i]?=some s→0≤s∧s < m∧(0 < i→∀r,l[i-1]?=some r→r < s))→ref2_kills_l0 k l m (n+1) (i:Int)=ref2_kills_l0 k l m n ((i+1:Nat):Int):=by
  intro n i hi hg
  obtain⟨s,e1,e2⟩:=some_get hi
  obtain⟨g1,g2,g3⟩:=hg s e1
  rw[ref2_kills_l0,condD (by omega),bindS e2,bindS (ref2_in_eq _ _ _ _),wr_id (x:=m-1) (by omega) (by omega),condNT ⟨by omega,by omega⟩,wr_succ (by omega)]
  by_cases h0:0 < i
  ·obtain⟨r,f1,f2⟩:=some_get (l:=l) (i:=i-1) (by omega)
   have:=g3 h0 r f1
   rw[condD (by omega),bindS e2,wr_pred h0 (by omega),bindS f2,condN (by omega)]
  ·rw[condN (by omega)]
 have hf:∀n i:Nat,i < l.length→¬(∀s,l[i]?=some s→0≤s∧s < m∧(0 < i→∀r,l[i-1]?=some r→r < s))→ref2_kills_l0 k l m (n+1) (i:Int)=some (.rt false):=by
  intro n i hi hg
  obtain⟨s,e1,e2⟩:=some_get hi
  rw[ref2_kills_l0,condD (by omega),bindS e2,bindS (ref2_in_eq _ _ _ _),wr_id (x:=m-1) (by omega) (by omega)]
  by_cases g1:InP s 0 (m-1)
  ·rw[condNT g1]
   by_cases h0:0 < i
   ·obtain⟨r,f1,f2⟩:=some_get (l:=l) (i:=i-1) (by omega)
    rw[condD (by omega),bindS e2,wr_pred h0 (by omega),bindS f2,condD]
    apply Classical.byContradiction
    intro hh
    refine hg fun s' e'=>?_
    rw[e1] at e'
    cases e'
    refine⟨by omega,by omega,fun _ r' f'=>?_⟩
    rw[f1] at f'
    cases f'
    omega
   ·refine absurd (fun s' e'=>?_) hg
    rw[e1] at e'
    cases e'
    exact⟨by omega,by omega,fun h=>absurd h h0⟩
  ·rw[condNF g1]
 have he:∀n,ref2_kills_l0 k l m (n+1) (l.length:Int)=some (.go ()):=fun n=>by rw[ref2_kills_l0,condN (by omega)]
 rcases scan _ hs hf he hl with⟨g,e⟩ | ⟨g,e⟩
 ·rw[bindS e,elim_go]
  refine⟨_,rfl,?_⟩
  rw[decide_eq_true_iff]
  constructor
  ·intro a;exact⟨g,by omega⟩
  ·rintro ⟨_,a⟩;omega
 ·rw[bindS e,elim_rt]
  exact⟨_,rfl,by simp;exact fun h=>absurd h g⟩
theorem venue_poles_eq (k:Nat) (l:List Pole) (hl:l.length < k) (hb:l.length≤4294967295):∃b,venue_poles k l=some b∧(b=true ↔ PolesP l∧l.length≤200):=by
 unfold venue_poles
 have hs:∀n i:Nat,i < l.length→(∀s,l[i]?=some s→CoordP s.X∧CoordP s.Y∧InP s.R 1 1048576)→venue_poles_l0 k l (n+1) (i:Int)=venue_poles_l0 k l n ((i+1:Nat):Int):=by
  intro n i hi hg
  obtain⟨s,e1,e2⟩:=some_get hi
  obtain⟨g1,g2,g3⟩:=hg s e1
  rw[venue_poles_l0,condD (by omega),bindS e2,bindS (venue_Coord_eq _ _),condNT g1,bindS (venue_Coord_eq _ _),condNT g2,bindS (venue_Reach_eq _ _),condNT g3,wr_succ (by omega)]
 have hf:∀n i:Nat,i < l.length→¬(∀s,l[i]?=some s→CoordP s.X∧CoordP s.Y∧InP s.R 1 1048576)→venue_poles_l0 k l (n+1) (i:Int)=some (.rt false):=by
  intro n i hi hg
  obtain⟨s,e1,e2⟩:=some_get hi
  rw[venue_poles_l0,condD (by omega),bindS e2,bindS (venue_Coord_eq _ _),bindS (venue_Coord_eq _ _),bindS (venue_Reach_eq _ _)]
  by_cases g1:CoordP s.X
  ·by_cases g2:CoordP s.Y
   ·by_cases g3:InP s.R 1 1048576
    ·refine absurd (fun s' e'=>?_) hg
     rw[e1] at e'
     cases e'
     exact⟨g1,g2,g3⟩
    ·rw[condNT g1,condNT g2,condNF g3]
   ·rw[condNT g1,condNF g2]
  ·rw[condNF g1]
 have he:∀n,venue_poles_l0 k l (n+1) (l.length:Int)=some (.go ()):=fun n=>by rw[venue_poles_l0,condN (by omega)]
 rcases scan _ hs hf he hl with⟨g,e⟩ | ⟨g,e⟩
 ·rw[bindS e,elim_go]
  refine⟨_,rfl,?_⟩
  rw[decide_eq_true_iff]
  constructor
  ·intro a;exact⟨g,by omega⟩
  ·rintro ⟨_,a⟩;omega
 ·rw[bindS e,elim_rt]
  exact⟨_,rfl,by simp;exact fun h=>absurd h g⟩
theorem ref2_poles_eq (k:Nat) (l:List Pole) (hl:l.length < k) (hb:l.length≤4294967295):∃b,ref2_poles k l=some b∧(b=true ↔ PolesP l∧l.length≤200):=by
 unfold ref2_poles
 have hs:∀n i:Nat,i < l.length→(∀s,l[i]?=some s→CoordP s.X∧CoordP s.Y∧InP s.R 1 1048576)→ref2_poles_l0 k l (n+1) (i:Int)=ref2_poles_l0 k l n ((i+1:Nat):Int):=by
  intro n i hi hg
  obtain⟨s,e1,e2⟩:=some_get hi
  obtain⟨g1,g2,g3⟩:=hg s e1
  rw[ref2_poles_l0,condD (by omega),bindS e2,bindS (ref2_coord_eq _ _),condNT g1,bindS e2,bindS (ref2_coord_eq _ _),condNT g2,bindS e2,bindS (ref2_in_eq _ _ _ _),condNT g3,wr_succ (by omega)]
 have hf:∀n i:Nat,i < l.length→¬(∀s,l[i]?=some s→CoordP s.X∧CoordP s.Y∧InP s.R 1 1048576)→ref2_poles_l0 k l (n+1) (i:Int)=some (.rt false):=by
  intro n i hi hg
  obtain⟨s,e1,e2⟩:=some_get hi
  rw[ref2_poles_l0,condD (by omega),bindS e2,bindS (ref2_coord_eq _ _),bindS e2,bindS (ref2_coord_eq _ _),bindS e2,bindS (ref2_in_eq _ _ _ _)]
  by_cases g1:CoordP s.X
  ·by_cases g2:CoordP s.Y
   ·by_cases g3:InP s.R 1 1048576
    ·refine absurd (fun s' e'=>?_) hg
     rw[e1] at e'
     cases e'
     exact⟨g1,g2,g3⟩
    ·rw[condNT g1,condNT g2,condNF g3]
   ·rw[condNT g1,condNF g2]
  ·rw[condNF g1]
 have he:∀n,ref2_poles_l0 k l (n+1) (l.length:Int)=some (.go ()):=fun n=>by rw[ref2_poles_l0,condN (by omega)]
 rcases scan _ hs hf he hl with⟨g,e⟩ | ⟨g,e⟩
 ·rw[bindS e,elim_go]
  refine⟨_,rfl,?_⟩
  rw[decide_eq_true_iff]
  constructor
  ·intro a;exact⟨g,by omega⟩
  ·rintro ⟨_,a⟩;omega
 ·rw[bindS e,elim_rt]
  exact⟨_,rfl,by simp;exact fun h=>absurd h g⟩
theorem notT {b:Bool} {p:Prop} (h:b=true ↔ p):(p∧b=true)∨(¬p∧b=false):=by
 cases b
 ·exact .inr ⟨fun hp=>absurd (h.2 hp) (by simp),rfl⟩
 ·exact .inl ⟨h.1 rfl,rfl⟩
theorem may_no {v:Venue} (h:¬MayV v):mayB v=false:=by
 cases e:mayB v
 ·rfl
 ·exact absurd (mayB_iff.1 e) h
theorem venue_May_eq (k:Nat) (v:Venue) (h1:v.Seats.length < k) (h2:v.Kills.length < k) (h3:v.Poles.length < k) (hk:k≤4294967295):venue_May k v=some (mayB v):=by
 unfold venue_May venue_Wrong
 obtain⟨b1,e1,g1⟩:=venue_seats_eq k v.Seats h1 (by omega)
 obtain⟨b2,e2,g2⟩:=venue_kills_eq k v.Kills (v.Seats.length:Int) h2 (by omega)
 obtain⟨b3,e3,g3⟩:=venue_poles_eq k v.Poles h3 (by omega)
 rw[bindS e1,bindS (venue_Reach_eq _ _),bindS (venue_in_eq _ _ _ _),bindS e2,bindS e3]
 rcases notT g1 with⟨p1,rfl⟩ | ⟨p1,rfl⟩
 ·by_cases p4:InP v.Gap 1 1048576
  ·by_cases p5:InP v.Radius 0 1048576
   ·rcases notT g2 with⟨p2,rfl⟩ | ⟨p2,rfl⟩
    ·rcases notT g3 with⟨p3,rfl⟩ | ⟨p3,rfl⟩
     ·rw[mayB_iff.2 ⟨p1.1,p1.2.1,p1.2.2,p4,p5,p2.1,p2.2,p3.1,p3.2⟩,condNT p4,condNT p5]
      rfl
     ·rw[may_no (fun h=>p3 ⟨h.poles,h.p1⟩),condNT p4,condNT p5]
      rfl
    ·rw[may_no (fun h=>p2 ⟨h.kills,h.k1⟩),condNT p4,condNT p5]
     rfl
   ·rw[may_no (fun h=>p5 h.radius),condNT p4,condNF p5]
    rfl
  ·rw[may_no (fun h=>p4 h.gap),condNF p4]
   rfl
 ·rw[may_no (fun h=>p1 ⟨h.seats,h.n0,h.n1⟩)]
  rfl
theorem ref2_May_eq (k:Nat) (v:Venue) (h1:v.Seats.length < k) (h2:v.Kills.length < k) (h3:v.Poles.length < k) (hk:k≤4294967295):ref2_May k v=some (mayB v):=by
 unfold ref2_May ref2_Wrong
 obtain⟨b1,e1,g1⟩:=ref2_seats_eq k v.Seats h1 (by omega)
 obtain⟨b2,e2,g2⟩:=ref2_kills_eq k v.Kills (v.Seats.length:Int) h2 (by omega) (by omega)
 obtain⟨b3,e3,g3⟩:=ref2_poles_eq k v.Poles h3 (by omega)
 rw[bindS e1,bindS (ref2_in_eq _ _ _ _),bindS (ref2_in_eq _ _ _ _),bindS e2,bindS e3]
 rcases notT g1 with⟨p1,rfl⟩ | ⟨p1,rfl⟩
 ·by_cases p4:InP v.Gap 1 1048576
  ·by_cases p5:InP v.Radius 0 1048576
   ·rcases notT g2 with⟨p2,rfl⟩ | ⟨p2,rfl⟩
    ·rcases notT g3 with⟨p3,rfl⟩ | ⟨p3,rfl⟩
     ·rw[mayB_iff.2 ⟨p1.1,p1.2.1,p1.2.2,p4,p5,p2.1,p2.2,p3.1,p3.2⟩,condNT p4,condNT p5]
      rfl
     ·rw[may_no (fun h=>p3 ⟨h.poles,h.p1⟩),condNT p4,condNT p5]
      rfl
    ·rw[may_no (fun h=>p2 ⟨h.kills,h.k1⟩),condNT p4,condNT p5]
     rfl
   ·rw[may_no (fun h=>p5 h.radius),condNT p4,condNF p5]
    rfl
  ·rw[may_no (fun h=>p4 h.gap),condNF p4]
   rfl
 ·rw[may_no (fun h=>p1 ⟨h.seats,h.n0,h.n1⟩)]
  rfl
end Go.Px

set_option linter.unusedVariables false
set_option linter.unusedSimpArgs false
namespace Go.Px
open Go Go.Sh
structure MkI (S:List Seat) (rad:Int) (K:List Int) (P:List Pole) (row x:Int) (i:Nat):Prop where
 len:S.length=i+1
 seats:SeatsP S
 last:∀r,S[S.length-1]?=some r→r.Row=row∧r.X=x
 r0:0≤row
 r1:row≤i
 x0:0≤x
 x1:x≤15 * (i:Int)
 rad0:InP rad 0 24
 kills:KillsP K S.length
 kl:K.length≤S.length
 poles:PolesP P
 pl:P.length≤S.length
 sm:∀s,s ∈ S→InP s.X 0 (15 * (i:Int))∧InP s.Y 0 (10 * (i:Int))
structure MkF (m:Nat) (o:List Seat×Int×List Int×List Pole):Prop where
 seats:SeatsP o.1
 n0:1≤o.1.length
 n1:o.1.length≤m
 rad:InP o.2.1 0 24
 kills:KillsP o.2.2.1 o.1.length
 kl:o.2.2.1.length≤m
 poles:PolesP o.2.2.2
 pl:o.2.2.2.length≤m
 sm:∀s,s ∈ o.1→InP s.X 0 1500∧InP s.Y 0 1000
structure MadeV (m:Nat) (v:Venue):Prop where
 may:MayV v
 n1:v.Seats.length≤m
 gap:v.Gap=10
 rad:InP v.Radius 0 24
 kl:v.Kills.length≤m
 pl:v.Poles.length≤m
 sm:∀s,s ∈ v.Seats→InP s.X 0 1500∧InP s.Y 0 1000
end Go.Px

set_option linter.unusedVariables false
set_option linter.unusedSimpArgs false
namespace Go.Px
open Go Go.Sh
theorem sq_le {d:Int} (h:InP d (-2097152) 2097152):0≤d * d∧d * d≤4398046511104:=by
 have:d * d=((d.natAbs * d.natAbs:Nat):Int):=(Int.natAbs_mul_self' d).symm
 have h2:d.natAbs * d.natAbs≤2097152 * 2097152:=Nat.mul_le_mul (by omega) (by omega)
 omega
def far (a b:Seat):Int:=if CoordP a.X∧CoordP a.Y∧CoordP b.X∧CoordP b.Y then (a.X-b.X) * (a.X-b.X)+(a.Y-b.Y) * (a.Y-b.Y) else 0
theorem far_wr {a b:Seat} (h:CoordP a.X∧CoordP a.Y∧CoordP b.X∧CoordP b.Y):wr ((wr ((wr (a.X-b.X)) * (wr (a.X-b.X))))+(wr ((wr (a.Y-b.Y)) * (wr (a.Y-b.Y)))))=far a b:=by
 unfold far
 rw[if_pos h]
 have h1:=sq_le (d:=a.X-b.X) (by omega)
 have h2:=sq_le (d:=a.Y-b.Y) (by omega)
 rw[wr_id (x:=a.X-b.X) (by omega) (by omega),wr_id (x:=a.Y-b.Y) (by omega) (by omega),wr_id (x:=(a.X-b.X) * (a.X-b.X)) (by omega) (by omega),wr_id (x:=(a.Y-b.Y) * (a.Y-b.Y)) (by omega) (by omega)]
 exact wr_id (by omega) (by omega)
theorem geom_Far_eq (k:Nat) (a b:Seat) (hk:3≤k):geom_Far k a b=some (far a b):=by
 obtain⟨n,rfl⟩:∃n,k=n+3:=⟨k-3,by omega⟩
 unfold geom_Far
 have i0:idx [a,b] 0=some a:=rfl
 have i1:idx [a,b] 1=some b:=rfl
 have w1:wr (0+1)=1:=by decide
 have w2:wr (1+1)=2:=by decide
 rw[geom_Far_l0,condD (by show(0:Int) < 2;omega),bindS i0,bindS (venue_Coord_eq _ _),bindS (venue_Coord_eq _ _)]
 by_cases h1:CoordP a.X
 ·rw[condNT h1]
  by_cases h2:CoordP a.Y
  ·rw[condNT h2,w1,geom_Far_l0,condD (by show(1:Int) < 2;omega),bindS i1,bindS (venue_Coord_eq _ _),bindS (venue_Coord_eq _ _)]
   by_cases h3:CoordP b.X
   ·rw[condNT h3]
    by_cases h4:CoordP b.Y
    ·rw[condNT h4,w2,geom_Far_l0,condN (by show ¬(2:Int) < 2;omega),bindS rfl,elim_go,far_wr ⟨h1,h2,h3,h4⟩]
    ·rw[condNF h4,bindS rfl,elim_rt,far,if_neg (fun h=>h4 h.2.2.2)]
   ·rw[condNF h3,bindS rfl,elim_rt,far,if_neg (fun h=>h3 h.2.2.1)]
  ·rw[condNF h2,bindS rfl,elim_rt,far,if_neg (fun h=>h2 h.2.1)]
 ·rw[condNF h1,bindS rfl,elim_rt,far,if_neg (fun h=>h1 h.1)]
theorem ref6_Far_eq (k:Nat) (a b:Seat):ref6_Far k a b=some (far a b):=by
 unfold ref6_Far ref6_square
 rw[bindS (ref6_coord_eq _ _),bindS (ref6_coord_eq _ _),bindS (ref6_coord_eq _ _),bindS (ref6_coord_eq _ _)]
 by_cases h1:CoordP a.X
 ·rw[condNT h1]
  by_cases h2:CoordP a.Y
  ·rw[condNT h2]
   by_cases h3:CoordP b.X
   ·rw[condNT h3]
    by_cases h4:CoordP b.Y
    ·rw[condNT h4,bindS rfl,bindS rfl,far_wr ⟨h1,h2,h3,h4⟩]
    ·rw[condNF h4,far,if_neg (fun h=>h4 h.2.2.2)]
   ·rw[condNF h3,far,if_neg (fun h=>h3 h.2.2.1)]
  ·rw[condNF h2,far,if_neg (fun h=>h2 h.2.1)]
 ·rw[condNF h1,far,if_neg (fun h=>h1 h.1)]
def closeB (a b:Seat) (r:Int):Bool:=decide (far a b < wr (r * r))
theorem geom_Close_eq (k:Nat) (a b:Seat) (r:Int) (hk:3≤k):geom_Close k a b r=some (closeB a b r):=by
 unfold geom_Close
 rw[bindS (geom_Far_eq k a b hk)]
 rfl
theorem ref6_square_eq (k:Nat) (r:Int) (h:okI r):ref6_square k r 0=some (wr (r * r)):=by
 obtain⟨h1,h2⟩:=h
 unfold ref6_square
 rw[Int.sub_zero,wr_id (x:=r) (by omega) (by omega)]
def poleS (p:Pole):Seat:=Seat.mk 0 p.X p.Y 0
instance:Inhabited Seat:=⟨Seat.mk 0 0 0 0⟩
def poleB (v:Venue) (s j:Nat):Bool:=closeB (v.Seats.getD s default) (poleS (v.Poles.getD j default)) (v.Poles.getD j default).R
def killL (v:Venue) (s:Nat):List Int:=(if (s:Int) ∈ v.Kills then [-1] else [])++((List.range v.Poles.length).filter (poleB v s)).map (fun j:Nat=>(j:Int))
theorem getD_of {α:Type} {l:List α} {i:Nat} {s d : α} (h:l[i]?=some s):l.getD i d=s:=by rw[List.getD_eq_getElem?_getD,h];rfl
def deadB (v:Venue) (s:Nat):Bool:=decide ((killL v s).length=0)
def usL (v:Venue):List Bool:=(List.range v.Seats.length).map (deadB v)
structure Small (k:Nat) (v:Venue):Prop where
 hs:v.Seats.length < k
 hk:v.Kills.length < k
 hp:v.Poles.length < k
 b:k≤4294967290
 b3:3≤k
theorem sameInts_refl (k:Nat) (l:List Int) (hl:l.length < k) (hb:l.length≤4294967290):ref6_SameInts k l l=some true:=by
 unfold ref6_SameInts
 rw[condNT rfl]
 have h:=scan_go (f:=fun n i=>ref6_SameInts_l0 k l l n i) (len:=l.length) (good:=fun _=>True)
  (fun n i hi _=>by
   show ref6_SameInts_l0 k l l (n+1) (i:Int)=_
   obtain⟨y,e1,e2⟩:=some_get hi
   rw[ref6_SameInts_l0,condD (by omega),bindS e2,bindS e2,condNT rfl,wr_succ (by omega)])
  (fun n=>by show ref6_SameInts_l0 k l l (n+1) _=_;rw[ref6_SameInts_l0,condN (by omega)]) l.length k 0 (by omega) hl (fun _ _ _=>trivial)
 have h:ref6_SameInts_l0 k l l k 0=_:=h
 rw[bindS h,elim_go]
end Go.Px

set_option linter.unusedVariables false
set_option linter.unusedSimpArgs false
namespace Go.Px
open Go Go.Sh
theorem law3_Few_eq (k:Nat) (v:Venue):law3_Few k v=some (decide (v.Seats.length≤40∧v.Kills.length≤40∧v.Poles.length≤40)):=by
 unfold law3_Few
 rw[condAnd (condAnd rfl)]
 congr 1
 rw[decide_eq_decide]
 omega
end Go.Px

set_option linter.unusedVariables false
set_option linter.unusedSimpArgs false
namespace Go.Px
open Go Go.Sh
end Go.Px

set_option linter.unusedVariables false
set_option linter.unusedSimpArgs false
namespace Go.Px
open Go Go.Sh
def nearL (v:Venue) (x y r:Int):List Int:=((List.range v.Seats.length).filter (fun s=>closeB (v.Seats.getD s default) (Seat.mk 0 x y 0) r)).map (fun j:Nat=>(j:Int))
theorem geom_Near_l0_eq {k:Nat} {v:Venue} (hv:Small k v) (x y r:Int):geom_Near_l0 k v x y r k [] 0=some (nearL v x y r):=by
 have hb:=hv.b
 have hs:=hv.hs
 have h:=gather0 (f:=fun n a i=>geom_Near_l0 k v x y r n a i) (len:=v.Seats.length) (c:=0) (fun s=>closeB (v.Seats.getD s default) (Seat.mk 0 x y 0) r) (fun j:Nat=>(j:Int))
  (fun n i w hi hw=>by
   obtain⟨t,e1,e2⟩:=some_get hi
   show geom_Near_l0 k v x y r (n+1) w (i:Int)=geom_Near_l0 k v x y r n _ _
   rw[geom_Near_l0,condD (by omega),bindS e2,bindS (geom_Close_eq _ _ _ _ hv.b3),wr_succ (by omega),getD_of e1]
   cases closeB t (Seat.mk 0 x y 0) r
   ·rw[condF rfl];rfl
   ·rw[condT rfl,gdD (by simp only[List.length_singleton];omega)];rfl)
  (fun n w=>by show geom_Near_l0 k v x y r (n+1) w _=_;rw[geom_Near_l0,condN (by omega)])
  hs [] (by simp)
 exact h
theorem geom_Near_eq {k:Nat} {v:Venue} (hv:Small k v) (hM:MayV v) {x y r:Int} (hx:CoordP x) (hy:CoordP y) (hr:InP r 1 1048576):geom_Near k v x y r=some (nearL v x y r):=by
 have hb:=hv.b
 unfold geom_Near
 rw[bindS (venue_May_eq k v hv.hs hv.hk hv.hp (by omega)),mayB_iff.2 hM,cNT,bindS (venue_Coord_eq _ _),condNT hx,bindS (venue_Coord_eq _ _),condNT hy,bindS (venue_Reach_eq _ _),decide_eq_true hr,bindS rfl,cNT,bindS (geom_Near_l0_eq hv x y r)]
theorem nearL_len (v:Venue) (x y r:Int):(nearL v x y r).length≤v.Seats.length:=by
 unfold nearL
 rw[List.length_map]
 have:=List.length_filter_le (fun s=>closeB (v.Seats.getD s default) (Seat.mk 0 x y 0) r) (List.range v.Seats.length)
 rw[List.length_range] at this
 exact this
structure Mk (M:List Bool) (Q:Nat→Prop):Prop where
 len:M.length=40
 get:∀i,i < 40→∃b,M[i]?=some b∧(b=true ↔ Q i)
theorem Mk.congr {M:List Bool} {Q Q':Nat→Prop} (h:Mk M Q) (hq:∀i,i < 40→(Q i ↔ Q' i)):Mk M Q' :=
 ⟨h.len,fun i hi=>by obtain⟨b,e1,e2⟩:=h.get i hi;exact⟨b,e1,e2.trans (hq i hi)⟩⟩
theorem Mk.zero:Mk (List.replicate 40 false) (fun _=>False):=by
 refine⟨by simp,fun i hi=>⟨false,?_,by simp⟩⟩
 rw[List.getElem?_replicate,if_pos hi]
end Go.Px

set_option linter.unusedVariables false
set_option linter.unusedSimpArgs false
namespace Go.Px
open Go Go.Sh
def seatA (v:Venue) (s:Int):Seat:=v.Seats.getD s.toNat default
theorem seat_idx {v:Venue} {s:Int} (h0:0≤s) (h:s < v.Seats.length):idx v.Seats s=some (seatA v s):=by
 obtain⟨j,rfl⟩:=Int.eq_ofNat_of_zero_le h0
 obtain⟨t,e1,e2⟩:=some_get (l:=v.Seats) (i:=j) (by omega)
 rw[e2]
 unfold seatA
 rw[Int.toNat_natCast,getD_of e1]
theorem ref6_seat_eq (k:Nat) (v:Venue) (s:Int):ref6_seat k v s=some (decide (0≤s∧s < v.Seats.length)):=by
 unfold ref6_seat
 exact condAnd rfl
structure Pre (p:Nat→Bool) (m r:Nat):Prop where
 le:r≤m
 all:∀j,j < r→p j=true
 stop:r < m→p r=false
theorem Pre.uniq {p:Nat→Bool} {m r r':Nat} (h:Pre p m r) (h':Pre p m r'):r=r':=by
 rcases Nat.lt_trichotomy r r' with hl | hl | hl
 ·have h1:=h'.all r hl
  have h2:=h.stop (by have:=h'.le;omega)
  rw[h1] at h2
  cases h2
 ·exact hl
 ·have h1:=h.all r' hl
  have h2:=h'.stop (by have:=h.le;omega)
  rw[h1] at h2
  cases h2
theorem Pre.cut {p:Nat→Bool} {m n r r':Nat} (h:Pre p m r) (h':Pre p n r') (hm:m≤n):r=min m r':=by
 refine h.uniq ⟨by omega,fun j hj=>h'.all j (by omega),fun hl=>?_⟩
 have:min m r'=r':=by omega
 rw[this] at hl ⊢
 exact h'.stop (by omega)
noncomputable def runN (v:Venue) (U:List Bool) (s:Int):Nat:=(ref6_long 4294967290 v U s).getD 0 |>.toNat
end Go.Px

set_option linter.unusedVariables false
set_option linter.unusedSimpArgs false
namespace Go.Px
open Go Go.Sh
end Go.Px

set_option linter.unusedVariables false
set_option linter.unusedSimpArgs false
namespace Go.Px
open Go Go.Sh
abbrev MayP (p:Party):Prop:=1≤p.Size∧p.Size≤8∧0≤p.Wheels∧p.Wheels≤2∧2 * p.Wheels≤p.Size
def kd (v:Venue) (s:Int) (m:Nat) (j:Int):Int:=if 0≤j∧j < m then (seatA v (s+j)).Kind else 0
def kF (v:Venue) (s:Int) (m:Nat):Nat→Nat→Int→Int→Ex (Int×Int) Bool
 | 0,_,w,c => .go (w,c)
 | d+1,j,w,c=>if kd v s m j=1 then (if ¬kd v s m ((j:Int)-1)=2∧¬kd v s m ((j:Int)+1)=2 then .rt false else kF v s m d (j+1) (w+1) c) else if kd v s m j=2 then kF v s m d (j+1) w (c+1) else kF v s m d (j+1) w c
def kindsB (v:Venue) (s:Int) (m:Nat) (want:Int):Bool:=match kF v s m m 0 0 0 with
 | .go (w,c)=>decide (w=want∧(want=0→c≤0))
 | .rt b=>b
noncomputable def placeB (v:Venue) (U:List Bool) (p:Party) (s:Int):Bool:=decide (MayP p∧p.Size≤runN v U s) && kindsB v s p.Size.toNat p.Wheels
/- the reference -/
/- apart -/
def ApP (v:Venue) (s:Int) (m:Nat) (t:Int) (n:Nat):Prop:=∀x,x < m→∀y,y < n→¬s+(x:Int)=t+(y:Int)∧closeB (seatA v (s+x)) (seatA v (t+y)) v.Radius=false
open Classical in
noncomputable def apB (v:Venue) (s:Int) (m:Nat) (t:Int) (n:Nat):Bool:=decide (ApP v s m t n)
theorem ref6_clash_eq {k:Nat} {v:Venue} (hM:MayV v) {x y:Int} (hx:0≤x∧x < v.Seats.length) (hy:0≤y∧y < v.Seats.length) (hxy:¬x=y):ref6_clash k v x y=some (closeB (seatA v x) (seatA v y) v.Radius):=by
 have hr:=hM.radius
 unfold ref6_clash
 rw[bindS (ref6_seat_eq _ _ _),condD hx,bindS (ref6_seat_eq _ _ _),condD hy,condNF hxy,bindS (seat_idx hx.1 hx.2),bindS (seat_idx hy.1 hy.2),bindS (ref6_Far_eq _ _ _),bindS (ref6_square_eq _ _ ⟨by omega,by omega⟩)]
 rfl
end Go.Px

set_option linter.unusedVariables false
set_option linter.unusedSimpArgs false
namespace Go.Px
open Go Go.Sh
noncomputable def plB (v:Venue) (p:Party) (s:Int):Bool:=mayB v && placeB v (usL v) p s
noncomputable def aptB (v:Venue) (p:Party) (s:Int) (q:Party) (t:Int):Bool:=plB v p s && (plB v q t && apB v s p.Size.toNat t q.Size.toNat)
end Go.Px

set_option linter.unusedVariables false
set_option linter.unusedSimpArgs false
namespace Go.Px
open Go Go.Sh
/- venues alike in all but kills, poles and radius -/
end Go.Px

set_option linter.unusedVariables false
set_option linter.unusedSimpArgs false
namespace Go.Px
open Go Go.Sh
section
open Classical
noncomputable def dB (p:Prop):Bool:=decide p
theorem dB_iff {p:Prop} : dB p=true ↔ p:=by unfold dB;exact decide_eq_true_iff
theorem dB_T {p:Prop} (h:p):dB p=true:=dB_iff.2 h
theorem dB_F {p:Prop} (h:¬p):dB p=false:=by
 cases e:dB p
 ·rfl
 ·exact absurd (dB_iff.1 e) h
end
def aI {α:Type} [Inhabited α] (l:List α) (x:Int) : α:=l.getD x.toNat default
theorem idx_aI {α:Type} [Inhabited α] {l:List α} {x:Int} (h0:0≤x) (h:x < (l.length:Int)):idx l x=some (aI l x):=by
 refine idx_get h0 ?_
 unfold aI
 rw[List.getD_eq_getElem?_getD,List.getElem?_eq_getElem (by omega)]
 rfl
abbrev AllMay (L:List Party):Prop:=L.length≤512∧∀i:Nat,i < L.length→MayP (aI L i)
/- maps -/
def pmN (P:List Pin):Nat→List (Int×Int)
 | 0=>[]
 | i+1=>mset (pmN P i) (aI P i).Party (aI P i).First
def pinAt (P:List Pin) (x:Int):Option Int:=mget (pmN P P.length) x
def RiseP (P:List Pin):Prop:=∀i j:Nat,i < j→j < P.length→(aI P i).Party < (aI P j).Party
/- the halls' own words for one hall that may be -/
section
variable {k:Nat} {v:Venue}
end
/- pins -/
structure PinG (v:Venue) (L:List Party) (P:List Pin) (i:Nat):Prop where
 lo:0≤(aI P (i:Int)).Party
 hi:(aI P (i:Int)).Party < L.length
 rise:0 < i→(aI P ((i-1:Nat):Int)).Party < (aI P (i:Int)).Party
 pl:plB v (aI L (aI P (i:Int)).Party) (aI P (i:Int)).First=true
 ap:∀j:Nat,j < i→aptB v (aI L (aI P (i:Int)).Party) (aI P (i:Int)).First (aI L (aI P (j:Int)).Party) (aI P (j:Int)).First=true
abbrev PinOK (v:Venue) (L:List Party) (P:List Pin):Prop:=∀i,i < P.length→PinG v L P i
theorem PinOK.rise {v:Venue} {L:List Party} {P:List Pin} (h:PinOK v L P):RiseP P:=by
 intro i j hij hj
 obtain⟨d,rfl⟩:∃d,j=i+1+d:=⟨j-(i+1),by omega⟩
 clear hij
 induction d with
 | zero =>
  have:=(h (i+1) hj).rise (by omega)
  exact this
 | succ d ih =>
  have:=(h (i+1+(d+1)) hj).rise (by omega)
  rw[show i+1+(d+1)-1=i+1+d by omega] at this
  have:=ih (by omega)
  omega
section
variable {k:Nat} {v:Venue} {L:List Party} {P:List Pin}
abbrev InOK (v:Venue) (L:List Party) (P:List Pin):Prop:=MayV v∧PinOK v L P∧AllMay L
/- plans -/
structure OkAt (v:Venue) (L:List Party) (P:List Pin) (r:List Int) (i:Nat):Prop where
 pin:∀f,pinAt P (i:Int)=some f→aI r (i:Int)=f
 pl:¬aI r (i:Int) = -1→plB v (aI L (i:Int)) (aI r (i:Int))=true
 ap:¬aI r (i:Int) = -1→∀j:Nat,j < i→¬aI r (j:Int) = -1→aptB v (aI L (i:Int)) (aI r (i:Int)) (aI L (j:Int)) (aI r (j:Int))=true
structure PlanP (v:Venue) (L:List Party) (P:List Pin) (r:List Int):Prop where
 inn:InOK v L P
 len:r.length=L.length
 at_:∀i,i < r.length→OkAt v L P r i
end
end Go.Px

set_option linter.unusedVariables false
set_option linter.unusedSimpArgs false
namespace Go.Px
open Go Go.Sh
structure Prob (v:Venue) (L:List Party):Prop where
 may:MayV v
 n1:v.Seats.length≤9
 kl:v.Kills.length≤9
 pl:v.Poles.length≤9
 rad:InP v.Radius 0 24
 l4:L.length≤4
 ps:∀i:Nat,i < L.length→MayP (aI L (i:Int))∧(aI L (i:Int)).Size≤3
theorem Prob.all {v:Venue} {L:List Party} (h:Prob v L):AllMay L:=⟨by have:=h.l4;omega,fun i hi=>(h.ps i hi).1⟩
theorem Prob.inn {v:Venue} {L:List Party} (h:Prob v L) {P:List Pin} (hP:PinOK v L P):InOK v L P:=⟨h.may,hP,h.all⟩
/- all plans -/
theorem filter_yes {α:Type} (l:List α):l.filter (fun _=>true)=l:=List.filter_eq_self.2 (fun _ _=>rfl)
section
variable {k:Nat} {v:Venue} {L:List Party}
/- persons -/
end
end Go.Px

set_option linter.unusedVariables false
set_option linter.unusedSimpArgs false
namespace Go.Px
open Go Go.Sh
theorem law6_told_eq:law6_told 2000=some true:=by decide +kernel
section
variable {k:Nat} {v:Venue}
noncomputable def clashB (v:Venue) (a b:Int):Bool:=dB ((0≤a∧a < v.Seats.length)∧(0≤b∧b < v.Seats.length)∧¬a=b∧MayV v) && closeB (seatA v a) (seatA v b) v.Radius
theorem clashB_F {a b:Int} (h:¬((0≤a∧a < v.Seats.length)∧(0≤b∧b < v.Seats.length)∧¬a=b∧MayV v)):clashB v a b=false:=by
 unfold clashB
 rw[dB_F h,Bool.false_and]
theorem clashB_T {a b:Int} (h:(0≤a∧a < v.Seats.length)∧(0≤b∧b < v.Seats.length)∧¬a=b∧MayV v):clashB v a b=closeB (seatA v a) (seatA v b) v.Radius:=by
 unfold clashB
 rw[dB_T h,Bool.true_and]
theorem geom_side_eq (a:Int):geom_side k v a=some (decide (0≤a∧a < v.Seats.length)):=by
 unfold geom_side
 by_cases h1:a < 0
 ·rw[condD h1,decide_eq_false (by omega)]
 ·rw[condN h1]
  by_cases h2:(v.Seats.length:Int)≤a
  ·rw[condD h2,decide_eq_false (by omega)]
  ·rw[condN h2,decide_eq_true (by omega)]
theorem geom_Clash_eq (hv:Small k v) (a b:Int):geom_Clash k v a b=some (clashB v a b):=by
 have hb:=hv.b
 unfold geom_Clash
 rw[bindS (geom_side_eq a),bindS (geom_side_eq b)]
 by_cases h1:0≤a∧a < v.Seats.length
 ·rw[condD h1]
  by_cases h2:0≤b∧b < v.Seats.length
  ·rw[condD h2]
   by_cases h3:a=b
   ·rw[condNT h3,clashB_F (fun h=>h.2.2.1 h3)]
   ·rw[condNF h3,bindS (venue_May_eq k v hv.hs hv.hk hv.hp (by omega))]
    cases hm:mayB v
    ·rw[cond_false,clashB_F (fun h=>by rw[mayB_iff.2 h.2.2.2] at hm;cases hm)]
    ·rw[cond_true,bindS (seat_idx h1.1 h1.2),bindS (seat_idx h2.1 h2.2),bindS (geom_Close_eq _ _ _ _ hv.b3),clashB_T ⟨h1,h2,h3,mayB_iff.1 hm⟩]
  ·rw[condN h2,clashB_F (fun h=>h2 h.2.1)]
 ·rw[condN h1,clashB_F (fun h=>h1 h.1)]
theorem ref6_Clash_eq2 (hv:Small k v) (a b:Int):ref6_Clash k v a b=some (clashB v a b):=by
 have hb:=hv.b
 unfold ref6_Clash
 rw[bindS (ref2_May_eq k v hv.hs hv.hk hv.hp (by omega))]
 cases hm:mayB v
 ·rw[cond_false,clashB_F (fun h=>by rw[mayB_iff.2 h.2.2.2] at hm;cases hm)]
 ·have hM:=mayB_iff.1 hm
  rw[cond_true]
  by_cases h1:0≤a∧a < v.Seats.length
  ·by_cases h2:0≤b∧b < v.Seats.length
   ·by_cases h3:a=b
    ·have e:ref6_clash k v a b=some false:=by
      unfold ref6_clash
      rw[bindS (ref6_seat_eq _ _ _),condD h1,bindS (ref6_seat_eq _ _ _),condD h2,condNT h3]
     rw[bindS e,clashB_F (fun h=>h.2.2.1 h3)]
    ·rw[bindS (ref6_clash_eq hM h1 h2 h3),clashB_T ⟨h1,h2,h3,hM⟩]
   ·have e:ref6_clash k v a b=some false:=by
     unfold ref6_clash
     rw[bindS (ref6_seat_eq _ _ _),condD h1,bindS (ref6_seat_eq _ _ _),condN h2]
    rw[bindS e,clashB_F (fun h=>h2 h.2.1)]
  ·have e:ref6_clash k v a b=some false:=by
    unfold ref6_clash
    rw[bindS (ref6_seat_eq _ _ _),condN h1]
   rw[bindS e,clashB_F (fun h=>h1 h.1)]
noncomputable def rowG (v:Venue) (a:Nat):List Int:=((List.range v.Seats.length).filter (fun b:Nat=>clashB v (a:Int) (b:Int))).map (fun j:Nat=>(j:Int))
noncomputable def graphL (v:Venue):List (List Int):=(List.range v.Seats.length).map (rowG v)
theorem graphL_len:(graphL v).length=v.Seats.length:=by unfold graphL;simp
theorem graphL_at {i:Nat} (h:i < v.Seats.length):aI (graphL v) (i:Int)=rowG v i:=by
 unfold graphL aI
 rw[Int.toNat_natCast,List.getD_eq_getElem?_getD,List.getElem?_map,List.getElem?_range h]
 rfl
theorem rowG_len {a:Nat} : (rowG v a).length≤v.Seats.length:=by
 unfold rowG
 rw[List.length_map]
 have:=List.length_filter_le (fun b:Nat=>clashB v (a:Int) (b:Int)) (List.range v.Seats.length)
 rw[List.length_range] at this
 exact this
theorem graph_l1 (hv:Small k v) (hM:MayV v) {a:Nat} (ha:a < v.Seats.length):geom_Graph_l1 k v (a:Int) (seatA v (a:Int)) k [] 0=some (rowG v a):=by
 have hb:=hv.b
 have hs:=hv.hs
 have h:=gather0 (f:=fun n w i=>geom_Graph_l1 k v (a:Int) (seatA v (a:Int)) n w i) (len:=v.Seats.length) (c:=0) (fun b:Nat=>clashB v (a:Int) (b:Int)) (fun j:Nat=>(j:Int))
  (fun n i w hi hw=>by
   show geom_Graph_l1 k v (a:Int) (seatA v (a:Int)) (n+1) w (i:Int)=geom_Graph_l1 k v (a:Int) (seatA v (a:Int)) n _ _
   rw[geom_Graph_l1,condD (by omega),bindS (seat_idx (by omega) (by omega)),bindS (geom_Close_eq _ _ _ _ hv.b3),wr_succ (by omega)]
   by_cases h3:(a:Int)=(i:Int)
   ·rw[condNT h3,bindS rfl,cond_false,clashB_F (fun h=>h.2.2.1 h3)]
    rfl
   ·rw[condNF h3,bindS rfl,clashB_T ⟨⟨by omega,by omega⟩,⟨by omega,by omega⟩,h3,hM⟩]
    cases closeB (seatA v (a:Int)) (seatA v (i:Int)) v.Radius
    ·rfl
    ·rw[cond_true,gdD (by simp only[List.length_singleton];omega)]
     rfl)
  (fun n w=>by show geom_Graph_l1 k v (a:Int) (seatA v (a:Int)) (n+1) w _=_;rw[geom_Graph_l1,condN (by omega)])
  hs [] (by simp)
 exact h
theorem geom_Graph_eq (hv:Small k v):geom_Graph k v=some (if dB (MayV v)=true then graphL v else []):=by
 have hb:=hv.b
 have hs:=hv.hs
 unfold geom_Graph
 rw[bindS (venue_May_eq k v hv.hs hv.hk hv.hp (by omega))]
 cases hm:mayB v
 ·rw[cNF,dB_F (fun h=>by rw[mayB_iff.2 h] at hm;cases hm),if_neg (by simp)]
 ·have hM:=mayB_iff.1 hm
  have e:=gather0 (f:=fun n w i=>geom_Graph_l0 k v n w i) (len:=v.Seats.length) (c:=0) (fun _=>true) (fun a:Nat=>rowG v a)
   (fun n i w hi hw=>by
    show geom_Graph_l0 k v (n+1) w (i:Int)=geom_Graph_l0 k v n _ _
    rw[geom_Graph_l0,condD (by omega),bindS (seat_idx (by omega) (by omega)),bindS (graph_l1 hv hM hi),wr_succ (by omega),if_pos rfl])
   (fun n w=>by show geom_Graph_l0 k v (n+1) w _=_;rw[geom_Graph_l0,condN (by omega)])
   hs [] (by simp)
  have e:geom_Graph_l0 k v k [] 0=_:=e
  rw[cNT,gdD (by omega),bindS e,dB_T hM,if_pos rfl,filter_yes,List.nil_append]
  rfl
noncomputable def nearR (v:Venue) (x y r:Int):List Int:=if dB (MayV v∧CoordP x∧CoordP y∧InP r 1 1048576)=true then nearL v x y r else []
theorem nearR_len {x y r:Int} : (nearR v x y r).length≤v.Seats.length:=by
 unfold nearR
 split
 ·exact nearL_len v x y r
 ·simp
theorem geom_Near_eq2 (hv:Small k v) (x y r:Int):geom_Near k v x y r=some (nearR v x y r):=by
 have hb:=hv.b
 unfold nearR
 rcases Classical.em (MayV v∧CoordP x∧CoordP y∧InP r 1 1048576) with h | h
 ·rw[dB_T h,if_pos rfl,geom_Near_eq hv h.1 h.2.1 h.2.2.1 h.2.2.2]
 ·rw[dB_F h,if_neg (by simp)]
  unfold geom_Near
  have e:(Option.bind (venue_May k v) fun r15=>cond (!r15) (some true) (Option.bind (venue_Coord k x) fun r18=>cond (!r18) (some true) (Option.bind (venue_Coord k y) fun r21=>cond (!r21) (some true) (Option.bind (venue_Reach k r) fun r24=>some (!r24)))))=some true:=by
   rw[bindS (venue_May_eq k v hv.hs hv.hk hv.hp (by omega))]
   cases hm:mayB v
   ·rfl
   ·rw[cNT,bindS (venue_Coord_eq _ _)]
    by_cases h1:CoordP x
    ·rw[condNT h1,bindS (venue_Coord_eq _ _)]
     by_cases h2:CoordP y
     ·rw[condNT h2,bindS (venue_Reach_eq _ _),decide_eq_false (fun h3=>h ⟨mayB_iff.1 hm,h1,h2,h3⟩)]
      rfl
     ·rw[condNF h2]
    ·rw[condNF h1]
  rw[bindS e,cond_true]
theorem ref6_Near_eq2 (hv:Small k v) (x y r:Int):ref6_Near k v x y r=some (nearR v x y r):=by
 have hb:=hv.b
 have hs:=hv.hs
 unfold nearR ref6_Near
 have e:(Option.bind (ref2_May k v) fun r14=>cond (!r14) (some true) (Option.bind (ref6_coord k x) fun r17=>cond (!r17) (some true) (Option.bind (ref6_coord k y) fun r20=>cond (!r20) (some true) (cond (decide (r < 1)) (some true) (some (decide (1048576 < r)))))))=some (!dB (MayV v∧CoordP x∧CoordP y∧InP r 1 1048576)):=by
  rw[bindS (ref2_May_eq k v hv.hs hv.hk hv.hp (by omega))]
  cases hm:mayB v
  ·rw[cNF,dB_F (fun h=>by rw[mayB_iff.2 h.1] at hm;cases hm)]
   rfl
  ·rw[cNT,bindS (ref6_coord_eq _ _)]
   by_cases h1:CoordP x
   ·rw[condNT h1,bindS (ref6_coord_eq _ _)]
    by_cases h2:CoordP y
    ·rw[condNT h2]
     by_cases h3:r < 1
     ·rw[condD h3,dB_F (fun h=>by have:=h.2.2.2;omega)]
      rfl
     ·rw[condN h3]
      by_cases h4:1048576 < r
      ·rw[decide_eq_true h4,dB_F (fun h=>by have:=h.2.2.2;omega)]
       rfl
      ·rw[decide_eq_false h4,dB_T ⟨mayB_iff.1 hm,h1,h2,by omega,by omega⟩]
       rfl
    ·rw[condNF h2,dB_F (fun h=>h2 h.2.2.1)]
     rfl
   ·rw[condNF h1,dB_F (fun h=>h1 h.2.1)]
    rfl
 rw[bindS e]
 rcases Classical.em (MayV v∧CoordP x∧CoordP y∧InP r 1 1048576) with h | h
 ·have hr:=h.2.2.2
  rw[dB_T h,Bool.not_true,cond_false,if_pos rfl]
  have h:=gather0 (f:=fun n a i=>ref6_Near_l0 k v x y r n a i) (len:=v.Seats.length) (c:=0) (fun s=>closeB (v.Seats.getD s default) (Seat.mk 0 x y 0) r) (fun j:Nat=>(j:Int))
   (fun n i w hi hw=>by
    obtain⟨t,e1,e2⟩:=some_get hi
    show ref6_Near_l0 k v x y r (n+1) w (i:Int)=ref6_Near_l0 k v x y r n _ _
    rw[ref6_Near_l0,condD (by omega),bindS e2,bindS (ref6_Far_eq _ _ _),bindS (ref6_square_eq _ _ ⟨by omega,by omega⟩),wr_succ (by omega),getD_of e1]
    show cond (closeB t (Seat.mk 0 x y 0) r) _ _=_
    cases closeB t (Seat.mk 0 x y 0) r
    ·rw[condF rfl];rfl
    ·rw[condT rfl,gdD (by simp only[List.length_singleton];omega)];rfl)
   (fun n w=>by show ref6_Near_l0 k v x y r (n+1) w _=_;rw[ref6_Near_l0,condN (by omega)])
   hs [] (by simp)
  have h:ref6_Near_l0 k v x y r k [] 0=some (nearL v x y r):=h
  rw[bindS h]
 ·rw[dB_F h,Bool.not_false,cond_true,if_neg (by simp)]
end
end Go.Px

set_option linter.unusedVariables false
set_option linter.unusedSimpArgs false
namespace Go.Px
open Go Go.Sh
theorem gasks_l3 {v:Venue} (hv:Small 2000 v) (i:Nat):law6_GeomAsks_l3 2000 v (i:Int) 2000 [] 0=some (rowG v i):=by
 have hs:=hv.hs
 have h:=gather0 (f:=fun n w j=>law6_GeomAsks_l3 2000 v (i:Int) n w j) (len:=v.Seats.length) (c:=0) (fun b:Nat=>clashB v (i:Int) (b:Int)) (fun j:Nat=>(j:Int))
  (fun n j w hj hw=>by
   show law6_GeomAsks_l3 2000 v (i:Int) (n+1) w (j:Int)=law6_GeomAsks_l3 2000 v (i:Int) n _ _
   rw[law6_GeomAsks_l3,condD (by omega),bindS (ref6_Clash_eq2 hv _ _),wr_succ (by omega)]
   cases clashB v (i:Int) (j:Int)
   ·rfl
   ·rw[cond_true,gdD (by simp only[List.length_singleton];omega)]
    rfl)
  (fun n w=>by show law6_GeomAsks_l3 2000 v (i:Int) (n+1) w _=_;rw[law6_GeomAsks_l3,condN (by omega)])
  (k:=2000) hs [] (by simp)
 exact h
theorem gasks_l2 {v:Venue} (hv:Small 2000 v):∀(d n i:Nat),i+d=v.Seats.length→d < n→law6_GeomAsks_l2 2000 v (graphL v) n (i:Int)=some (.go ())
 | d,0,i,_,h=>absurd h (by omega)
 | 0,n+1,i,hi,_=>by
  have hl:=graphL_len (v:=v)
  rw[law6_GeomAsks_l2,condN (by omega)]
 | d+1,n+1,i,hi,hd=>by
  have hl:=graphL_len (v:=v)
  have hs:=hv.hs
  have hr:=rowG_len (v:=v) (a:=i)
  rw[law6_GeomAsks_l2,condD (by omega),bindS (gasks_l3 hv i),bindS (idx_aI (by omega) (by omega)),graphL_at (by omega),bindS (sameInts_refl _ _ (by omega) (by omega)),cNT,wr_succ (by omega)]
  exact gasks_l2 hv d n (i+1) (by omega) (by omega)
theorem GeomAsks_true (a0:Venue) (h0:okVenue a0) (a1:Seat) (h1:okSeat a1) (a2:Seat) (h2:okSeat a2) (a3:Int) (h3:okI a3) (a4:Int) (h4:okI a4) (a5:Int) (h5:okI a5):∃k,law6_GeomAsks k a0 a1 a2 a3 a4 a5=some true:=by
 refine⟨2000,?_⟩
 unfold law6_GeomAsks
 rw[bindS (law3_Few_eq _ _)]
 by_cases hf:a0.Seats.length≤40∧a0.Kills.length≤40∧a0.Poles.length≤40
 ·have hv:Small 2000 a0:=⟨by omega,by omega,by omega,by omega,by omega⟩
  have hnl:=nearR_len (v:=a0) (x:=a3) (y:=a4) (r:=a5)
  rw[condNT hf,bindS (x:=Option.bind _ _) (a:=false) (by
   rw[bindS (geom_Far_eq _ _ _ (by omega)),bindS (ref6_Far_eq _ _ _),condNT rfl,bindS (geom_Clash_eq hv _ _),bindS (ref6_Clash_eq2 hv _ _),beq_self_eq_true,cNT,bindS (geom_Near_eq2 hv _ _ _),bindS (ref6_Near_eq2 hv _ _ _),bindS (sameInts_refl _ _ (by omega) (by omega))]
   rfl),cond_false,bindS (geom_Graph_eq hv),bindS (ref2_May_eq _ a0 hv.hs hv.hk hv.hp (by omega))]
  cases hm:mayB a0
  ·rw[cNF,bindS law6_told_eq,cond_true,dB_F (fun h=>by rw[mayB_iff.2 h] at hm;cases hm),if_neg (by simp)]
   rfl
  ·have hM:=mayB_iff.1 hm
   have hl:=graphL_len (v:=a0)
   have e:=gasks_l2 hv a0.Seats.length 2000 0 (by omega) (by omega)
   have e:law6_GeomAsks_l2 2000 a0 (graphL a0) 2000 0=some (.go ()):=e
   rw[cNT,dB_T hM,if_pos rfl,condNT (by omega),bindS e,elim_go,bindS law6_told_eq]
 ·rw[condNF hf,bindS law6_told_eq]
end Go.Px
