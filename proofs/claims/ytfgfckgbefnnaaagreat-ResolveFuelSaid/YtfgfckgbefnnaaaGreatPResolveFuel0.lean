/- The plain law, in parts: Base, Scan, Venue, Make, Kill, KillAsks, KillMore, Run, Runs, Place, PlaceTop, PlaceApart, PlaceKilled, Plan. -/
import Derived.Test.YtfgfckgbefnnaaaGreatX
set_option linter.unusedVariables false
namespace Go.Px
open Go Go.Sh
theorem um (a m:Int) (h:0 < m):0≤(IntKind.u64.wrap a).tmod m∧(IntKind.u64.wrap a).tmod m < m:=by
 have h0:0≤IntKind.u64.wrap a:=by
  rw[IntKind.wrap_u64];omega
 exact⟨Int.tmod_nonneg _ h0,Int.tmod_lt_of_pos _ h⟩
theorem wr_id {x:Int} (h1 : -9223372036854775808≤x) (h2:x≤9223372036854775807):wr x=x:=w64 h1 h2
theorem wu_id {x:Int} (h1:0≤x) (h2:x≤18446744073709551615):IntKind.u64.wrap x=x:=wu64 h1 h2
section
variable {α β:Type}
theorem condT {c:Bool} {a b : α} (h:c=true):cond c a b=a:=by rw[h];rfl
theorem condF {c:Bool} {a b : α} (h:c=false):cond c a b=b:=by rw[h];rfl
theorem condD {p:Prop} {_:Decidable p} {a b : α} (h:p):cond (decide p) a b=a:=by rw[decide_eq_true h];rfl
theorem condN {p:Prop} {_:Decidable p} {a b : α} (h:¬p):cond (decide p) a b=b:=by rw[decide_eq_false h];rfl
theorem gdD {p:Prop} {_:Decidable p} {r:Option α} (h:p):gd (decide p) r=r:=by rw[decide_eq_true h];rfl
theorem elim_go {γ:Type} {a : α} {f : α → γ} {g : β → γ} : Ex.elim (.go a) f g=f a:=(exg rfl).symm
theorem elim_rt {γ:Type} {b : β} {f : α → γ} {g : β → γ} : Ex.elim (.rt b) f g=g b:=(exr rfl).symm
theorem bindS {x:Option α} {a : α} {f : α→Option β} (h:x=some a):Option.bind x f=f a:=by rw[h];rfl
theorem idx_get {l:List α} {i:Int} {y : α} (h0:0≤i) (h:l[i.toNat]?=some y):idx l i=some y:=by unfold idx;rw[if_pos h0,h]
theorem idx_nat {l:List α} {n:Nat} (h:n < l.length):idx l (n:Int)=some l[n]:=idx_get (by omega) (by rw[Int.toNat_natCast];exact List.getElem?_eq_getElem h)
theorem slc_eq {l:List α} {lo hi:Int} (h:0≤lo∧lo≤hi∧hi≤(l.length:Int)):slc l lo hi=some ((l.drop lo.toNat).take (hi.toNat-lo.toNat)):=by unfold slc;rw[if_pos h]
theorem optc_some {x : α} {a:Option β} {f : α→Option β} : optc (some x) a f=f x:=(opts rfl).symm
theorem optc_none {a:Option β} {f : α→Option β} : optc none a f=a:=(optn rfl).symm
end
theorem wr_succ {i:Nat} (h:i < 4294967296):wr ((i:Int)+1)=((i+1:Nat):Int):=by rw[wr_id (by omega) (by omega)];omega
end Go.Px

set_option linter.unusedVariables false
namespace Go.Px
open Go Go.Sh
section
variable {ρ α:Type}
theorem scan_go {f:Nat→Int→Option (Ex Unit ρ)} {len:Nat} {good:Nat→Prop}
  (hs:∀n i:Nat,i < len→good i→f (n+1) (i:Int)=f n ((i+1:Nat):Int))
  (he:∀n,f (n+1) (len:Int)=some (.go ())):∀d n i:Nat,i+d=len→d < n→(∀j,i≤j→j < len→good j)→f n (i:Int)=some (.go ())
 | d,0,i,_,h,_=>absurd h (by omega)
 | 0,n+1,i,hi,_,_=>by
  obtain rfl:i=len:=by omega
  exact he n
 | d+1,n+1,i,hi,h,hg=>by
  rw[hs n i (by omega) (hg i (by omega) (by omega))]
  exact scan_go hs he d n (i+1) (by omega) (by omega) (fun j h1 h2=>hg j (by omega) h2)
theorem scan_rt {f:Nat→Int→Option (Ex Unit ρ)} {len:Nat} {good:Nat→Prop} {r : ρ}
  (hs:∀n i:Nat,i < len→good i→f (n+1) (i:Int)=f n ((i+1:Nat):Int))
  (hf:∀n i:Nat,i < len→¬good i→f (n+1) (i:Int)=some (.rt r)):∀d n i:Nat,i+d=len→d < n→(∃j,i≤j∧j < len∧¬good j)→f n (i:Int)=some (.rt r)
 | d,0,i,_,h,_=>absurd h (by omega)
 | 0,n+1,i,hi,_,hg=>by
  obtain⟨j,h1,h2,_⟩:=hg
  omega
 | d+1,n+1,i,hi,h,hg=>by
  rcases Classical.em (good i) with hh | hh
  ·rw[hs n i (by omega) hh]
   refine scan_rt hs hf d n (i+1) (by omega) (by omega) ?_
   obtain⟨j,h1,h2,h3⟩:=hg
   refine⟨j,?_,h2,h3⟩
   rcases Nat.lt_or_ge i j with hl | hl
   ·omega
   ·exact absurd (show good j from by rw[show j=i by omega];exact hh) h3
  ·exact hf n i (by omega) hh
theorem scan {f:Nat→Int→Option (Ex Unit ρ)} {len:Nat} (good:Nat→Prop) {r : ρ}
  (hs:∀n i:Nat,i < len→good i→f (n+1) (i:Int)=f n ((i+1:Nat):Int))
  (hf:∀n i:Nat,i < len→¬good i→f (n+1) (i:Int)=some (.rt r))
  (he:∀n,f (n+1) (len:Int)=some (.go ())) {k:Nat} (hk:len < k) :
  ((∀j,j < len→good j)∧f k 0=some (.go ()))∨((¬∀j,j < len→good j)∧f k 0=some (.rt r)):=by
 rcases Classical.em (∀j,j < len→good j) with h | h
 ·exact .inl ⟨h,scan_go hs he len k 0 (by omega) hk fun j _ h2=>h j h2⟩
 ·refine .inr ⟨h,scan_rt hs hf len k 0 (by omega) hk ?_⟩
  obtain⟨j,hj⟩:=Classical.not_forall.1 h
  obtain⟨h1,h2⟩:=Classical.not_imp.1 hj
  exact⟨j,by omega,h1,h2⟩
theorem gather {f:Nat→List α→Int→Option (List α)} {len c:Nat} (p:Nat→Bool) (g:Nat → α)
  (hs:∀(n i:Nat) v,i < len→v.length≤c+i→f (n+1) v (i:Int)=f n (if p i then v++[g i] else v) ((i+1:Nat):Int))
  (he:∀n v,f (n+1) v (len:Int)=some v):∀(d n i:Nat) v,i+d=len→d < n→v.length≤c+i→f n v (i:Int)=some (v++((List.range' i d).filter p).map g)
 | d,0,i,v,_,h,_=>absurd h (by omega)
 | 0,n+1,i,v,hi,_,_=>by
  obtain rfl:i=len:=by omega
  rw[he]
  simp
 | d+1,n+1,i,v,hi,h,hv=>by
  rw[hs n i v (by omega) hv]
  have:=gather p g hs he d n (i+1) (if p i then v++[g i] else v) (by omega) (by omega) (by split <;> (try rw[List.length_append,List.length_singleton]) <;> omega)
  rw[this,List.range'_succ,List.filter_cons]
  cases p i <;> simp
theorem gather0 {f:Nat→List α→Int→Option (List α)} {len c:Nat} (p:Nat→Bool) (g:Nat → α)
  (hs:∀(n i:Nat) v,i < len→v.length≤c+i→f (n+1) v (i:Int)=f n (if p i then v++[g i] else v) ((i+1:Nat):Int))
  (he:∀n v,f (n+1) v (len:Int)=some v) {k:Nat} (hk:len < k) (v:List α) (hv:v.length≤c):f k v 0=some (v++((List.range len).filter p).map g):=by
 rw[List.range_eq_range']
 exact gather p g hs he len k 0 v (by omega) hk (by omega)
theorem fill {f:Nat→List α→Int→Option (List α)} {len:Nat} (g:Nat → α)
  (hs:∀(n i:Nat) v,i < len→v.length=len→f (n+1) v (i:Int)=f n (v.set i (g i)) ((i+1:Nat):Int))
  (he:∀n v,v.length=len→f (n+1) v (len:Int)=some v):∀(d n i:Nat) v,i+d=len→d < n→v.length=len→f n v (i:Int)=some (v.take i++(List.range' i d).map g)
 | d,0,i,v,_,h,_=>absurd h (by omega)
 | 0,n+1,i,v,hi,_,hv=>by
  obtain rfl:i=len:=by omega
  rw[he _ _ hv,← hv]
  simp
 | d+1,n+1,i,v,hi,h,hv=>by
  rw[hs n i v (by omega) hv,fill g hs he d n (i+1) (v.set i (g i)) (by omega) (by omega) (by rw[List.length_set,hv]),List.range'_succ]
  congr 1
  rw[List.take_add_one,List.take_set_of_le (by omega),List.getElem?_set_self (by omega)]
  simp
theorem fill0 {f:Nat→List α→Int→Option (List α)} {len:Nat} (g:Nat → α)
  (hs:∀(n i:Nat) v,i < len→v.length=len→f (n+1) v (i:Int)=f n (v.set i (g i)) ((i+1:Nat):Int))
  (he:∀n v,v.length=len→f (n+1) v (len:Int)=some v) {k:Nat} (hk:len < k) (v:List α) (hv:v.length=len):f k v 0=some ((List.range len).map g):=by
 rw[List.range_eq_range']
 have:=fill g hs he len k 0 v (by omega) hk hv
 rw[List.take_zero,List.nil_append] at this
 exact this
end
theorem wr_pred {i:Nat} (h:0 < i) (h2:i < 4294967296):wr ((i:Int)-1)=((i-1:Nat):Int):=by rw[wr_id (by omega) (by omega)];omega
theorem cNT {α:Type} {a b : α} : cond (!true) a b=b:=rfl
theorem cNF {α:Type} {a b : α} : cond (!false) a b=a:=rfl
theorem condNT {p:Prop} [Decidable p] {α:Type} {a b : α} (h:p):cond (!decide p) a b=b:=by rw[decide_eq_true h];rfl
theorem condNF {p:Prop} [Decidable p] {α:Type} {a b : α} (h:¬p):cond (!decide p) a b=a:=by rw[decide_eq_false h];rfl
theorem condAnd {p q:Prop} [Decidable p] [Decidable q] {x:Option Bool} (h:x=some (decide q)):cond (decide p) x (some false)=some (decide (p∧q)):=by
 by_cases hp:p
 ·rw[condD hp,h];simp [hp]
 ·rw[condN hp];simp [hp]
end Go.Px

set_option linter.unusedVariables false
set_option linter.unusedSimpArgs false
namespace Go.Px
open Go Go.Sh
abbrev InP (x a b:Int):Prop:=a≤x∧x≤b
abbrev CoordP (x:Int):Prop:=InP x (-1048576) 1048576
abbrev SeatP (s:Seat):Prop:=InP s.Row 0 999∧CoordP s.X∧CoordP s.Y∧InP s.Kind 0 2
abbrev LessP (a b:Seat):Prop:=a.Row < b.Row∨(a.Row=b.Row∧a.X < b.X)
abbrev SeatsP (l:List Seat):Prop:=∀j,j < l.length→∀s,l[j]?=some s→SeatP s∧(0 < j→∀r,l[j-1]?=some r→LessP r s)
abbrev KillsP (l:List Int) (m:Int):Prop:=∀j,j < l.length→∀s,l[j]?=some s→0≤s∧s < m∧(0 < j→∀r,l[j-1]?=some r→r < s)
abbrev PolesP (l:List Pole):Prop:=∀j,j < l.length→∀s,l[j]?=some s→CoordP s.X∧CoordP s.Y∧InP s.R 1 1048576
structure MayV (v:Venue):Prop where
 seats:SeatsP v.Seats
 n0:1≤v.Seats.length
 n1:v.Seats.length≤4096
 gap:InP v.Gap 1 1048576
 radius:InP v.Radius 0 1048576
 kills:KillsP v.Kills v.Seats.length
 k1:v.Kills.length≤200
 poles:PolesP v.Poles
 p1:v.Poles.length≤200
open Classical in
noncomputable def mayB (v:Venue):Bool:=decide (MayV v)
open Classical in
theorem mayB_iff {v:Venue} : mayB v=true ↔ MayV v:=by unfold mayB;exact decide_eq_true_iff
theorem venue_in_eq (k:Nat) (x a b:Int):venue_in k x a b=some (decide (InP x a b)):=by
 unfold venue_in
 exact condAnd rfl
theorem ref2_in_eq (k:Nat) (x a b:Int):ref2_in k x a b=some (decide (InP x a b)):=by
 unfold ref2_in
 exact condAnd rfl
theorem venue_Coord_eq (k:Nat) (x:Int):venue_Coord k x=some (decide (CoordP x)):=by
 unfold venue_Coord
 rw[bindS (venue_in_eq _ _ _ _)]
theorem ref2_coord_eq (k:Nat) (x:Int):ref2_coord k x=some (decide (CoordP x)):=by
 unfold ref2_coord
 rw[bindS (ref2_in_eq _ _ _ _)]
theorem ref6_coord_eq (k:Nat) (x:Int):ref6_coord k x=some (decide (CoordP x)):=by
 unfold ref6_coord
 exact condAnd rfl
theorem venue_Row_eq (k:Nat) (x:Int):venue_Row k x=some (decide (InP x 0 999)):=by
 unfold venue_Row
 rw[bindS (venue_in_eq _ _ _ _)]
theorem venue_Reach_eq (k:Nat) (x:Int):venue_Reach k x=some (decide (InP x 1 1048576)):=by
 unfold venue_Reach
 rw[bindS (venue_in_eq _ _ _ _)]
theorem venue_seat_eq (k:Nat) (s:Seat):venue_seat k s=some (decide (SeatP s)):=by
 unfold venue_seat
 have h:(Option.bind (venue_Row k s.Row) fun r2=>cond r2 (Option.bind (venue_Coord k s.X) fun r5=>cond r5 (Option.bind (venue_Coord k s.Y) fun r8=>some r8) (some false)) (some false))=some (decide (InP s.Row 0 999∧CoordP s.X∧CoordP s.Y)):=by
  rw[bindS (venue_Row_eq _ _)]
  refine condAnd ?_
  rw[bindS (venue_Coord_eq _ _)]
  refine condAnd ?_
  rw[bindS (venue_Coord_eq _ _)]
 rw[h]
 by_cases h0:s.Kind=0
 ·rw[condD h0]
  congr 1
  rw[decide_eq_decide]
  omega
 rw[condN h0]
 by_cases h1:s.Kind=1
 ·rw[condD h1]
  congr 1
  rw[decide_eq_decide]
  omega
 rw[condN h1]
 by_cases h2:s.Kind=2
 ·rw[condD h2]
  congr 1
  rw[decide_eq_decide]
  omega
 rw[condN h2]
 congr 1
 symm
 rw[decide_eq_false_iff_not]
 omega
theorem venue_Less_eq (k:Nat) (a b:Seat):venue_Less k a b=some (decide (LessP a b)):=by
 unfold venue_Less
 by_cases h:a.Row < b.Row
 ·rw[condD h,decide_eq_true (.inl h)]
 ·rw[condN h,condAnd rfl]
  congr 1
  rw[decide_eq_decide]
  omega
theorem ref2_Less_eq (k:Nat) (a b:Seat):ref2_Less k a b=some (decide (LessP a b)):=by
 unfold ref2_Less
 by_cases h:a.Row < b.Row
 ·rw[condD h,decide_eq_true (.inl h)]
 ·rw[condN h,condAnd rfl]
  congr 1
  rw[decide_eq_decide]
  omega
theorem some_get {α:Type} {l:List α} {i:Nat} (h:i < l.length):∃s,l[i]?=some s∧idx l (i:Int)=some s:=⟨l[i],List.getElem?_eq_getElem h,idx_nat h⟩
theorem venue_seats_eq (k:Nat) (l:List Seat) (hl:l.length < k) (hb:l.length≤4294967295):∃b,venue_seats k l=some b∧(b=true ↔ SeatsP l∧1≤l.length∧l.length≤4096):=by
 unfold venue_seats
 have hs:∀n i:Nat,i < l.length→(∀s,l[i]?=some s→SeatP s∧(0 < i→∀r,l[i-1]?=some r→LessP r s))→venue_seats_l0 k l (n+1) (i:Int)=venue_seats_l0 k l n ((i+1:Nat):Int):=by
  intro n i hi hg
  obtain⟨s,e1,e2⟩:=some_get hi
  obtain⟨g1,g2⟩:=hg s e1
  rw[venue_seats_l0,condD (by omega),bindS e2,bindS (venue_seat_eq _ _),condNT g1,wr_succ (by omega)]
  by_cases h0:0 < i
  ·obtain⟨r,f1,f2⟩:=some_get (l:=l) (i:=i-1) (by omega)
   rw[condD (by omega),wr_pred h0 (by omega),bindS f2,bindS (venue_Less_eq _ _ _),condNT (g2 h0 r f1)]
  ·rw[condN (by omega)]
 have hf:∀n i:Nat,i < l.length→¬(∀s,l[i]?=some s→SeatP s∧(0 < i→∀r,l[i-1]?=some r→LessP r s))→venue_seats_l0 k l (n+1) (i:Int)=some (.rt false):=by
  intro n i hi hg
  obtain⟨s,e1,e2⟩:=some_get hi
  rw[venue_seats_l0,condD (by omega),bindS e2,bindS (venue_seat_eq _ _)]
  by_cases g1:SeatP s
  ·rw[condNT g1]
   by_cases h0:0 < i
   ·obtain⟨r,f1,f2⟩:=some_get (l:=l) (i:=i-1) (by omega)
    rw[condD (by omega),wr_pred h0 (by omega),bindS f2,bindS (venue_Less_eq _ _ _),condNF]
    intro hh
    refine hg fun s' e'=>?_
    rw[e1] at e'
    cases e'
    refine⟨g1,fun _ r' f'=>?_⟩
    rw[f1] at f'
    cases f'
    exact hh
   ·refine absurd (fun s' e'=>?_) hg
    rw[e1] at e'
    cases e'
    exact⟨g1,fun h=>absurd h h0⟩
  ·rw[condNF g1]
 have he:∀n,venue_seats_l0 k l (n+1) (l.length:Int)=some (.go ()):=fun n=>by rw[venue_seats_l0,condN (by omega)]
 rcases scan _ hs hf he hl with⟨g,e⟩ | ⟨g,e⟩
 ·rw[bindS e,elim_go,condAnd rfl]
  refine⟨_,rfl,?_⟩
  rw[decide_eq_true_iff]
  constructor
  ·rintro ⟨a,b⟩;exact⟨g,by omega,by omega⟩
  ·rintro ⟨_,a,b⟩;omega
 ·rw[bindS e,elim_rt]
  exact⟨_,rfl,by simp;exact fun h=>absurd h g⟩
theorem ref2_seats_eq (k:Nat) (l:List Seat) (hl:l.length < k) (hb:l.length≤4294967295):∃b,ref2_seats k l=some b∧(b=true ↔ SeatsP l∧1≤l.length∧l.length≤4096):=by
 unfold ref2_seats
 have hs:∀n i:Nat,i < l.length→(∀s,l[i]?=some s→SeatP s∧(0 < i→∀r,l[i-1]?=some r→LessP r s))→ref2_seats_l0 k l (n+1) (i:Int)=ref2_seats_l0 k l n ((i+1:Nat):Int):=by
  intro n i hi hg
  obtain⟨s,e1,e2⟩:=some_get hi
  obtain⟨⟨g1,g3,g4,g5⟩,g2⟩:=hg s e1
  rw[ref2_seats_l0,condD (by omega),bindS e2,bindS (ref2_in_eq _ _ _ _),condNT g1,bindS (ref2_coord_eq _ _),condNT g3,bindS (ref2_coord_eq _ _),condNT g4,bindS (ref2_in_eq _ _ _ _),condNT g5,wr_succ (by omega)]
  by_cases h0:0 < i
  ·obtain⟨r,f1,f2⟩:=some_get (l:=l) (i:=i-1) (by omega)
   rw[condD (by omega),wr_pred h0 (by omega),bindS f2,bindS (ref2_Less_eq _ _ _),condNT (g2 h0 r f1)]
  ·rw[condN (by omega)]
 have hf:∀n i:Nat,i < l.length→¬(∀s,l[i]?=some s→SeatP s∧(0 < i→∀r,l[i-1]?=some r→LessP r s))→ref2_seats_l0 k l (n+1) (i:Int)=some (.rt false):=by
  intro n i hi hg
  obtain⟨s,e1,e2⟩:=some_get hi
  rw[ref2_seats_l0,condD (by omega),bindS e2,bindS (ref2_in_eq _ _ _ _),bindS (ref2_coord_eq _ _),bindS (ref2_coord_eq _ _),bindS (ref2_in_eq _ _ _ _)]
  by_cases g1:InP s.Row 0 999
  ·rw[condNT g1]
   by_cases g3:CoordP s.X
   ·rw[condNT g3]
    by_cases g4:CoordP s.Y
    ·rw[condNT g4]
     by_cases g5:InP s.Kind 0 2
     ·rw[condNT g5]
      by_cases h0:0 < i
      ·obtain⟨r,f1,f2⟩:=some_get (l:=l) (i:=i-1) (by omega)
       rw[condD (by omega),wr_pred h0 (by omega),bindS f2,bindS (ref2_Less_eq _ _ _),condNF]
       intro hh
       refine hg fun s' e'=>?_
       rw[e1] at e'
       cases e'
       refine⟨⟨g1,g3,g4,g5⟩,fun _ r' f'=>?_⟩
       rw[f1] at f'
       cases f'
       exact hh
      ·refine absurd (fun s' e'=>?_) hg
       rw[e1] at e'
       cases e'
       exact⟨⟨g1,g3,g4,g5⟩,fun h=>absurd h h0⟩
     ·rw[condNF g5]
    ·rw[condNF g4]
   ·rw[condNF g3]
  ·rw[condNF g1]
 have he:∀n,ref2_seats_l0 k l (n+1) (l.length:Int)=some (.go ()):=fun n=>by rw[ref2_seats_l0,condN (by omega)]
 rcases scan _ hs hf he hl with⟨g,e⟩ | ⟨g,e⟩
 ·rw[bindS e,elim_go,condAnd rfl]
  refine⟨_,rfl,?_⟩
  rw[decide_eq_true_iff]
  constructor
  ·rintro ⟨a,b⟩;exact⟨g,by omega,by omega⟩
  ·rintro ⟨_,a,b⟩;omega
 ·rw[bindS e,elim_rt]
  exact⟨_,rfl,by simp;exact fun h=>absurd h g⟩
theorem venue_kills_eq (k:Nat) (l:List Int) (m:Int) (hl:l.length < k) (hb:l.length≤4294967295):∃b,venue_kills k l m=some b∧(b=true ↔ KillsP l m∧l.length≤200):=by
 unfold venue_kills
 have hs:∀n i:Nat,i < l.length→(∀s,l[i]?=some s→0≤s∧s < m∧(0 < i→∀r,l[i-1]?=some r→r < s))→venue_kills_l0 k l m (n+1) (i:Int)=venue_kills_l0 k l m n ((i+1:Nat):Int):=by
  intro n i hi hg
  obtain⟨s,e1,e2⟩:=some_get hi
  obtain⟨g1,g2,g3⟩:=hg s e1
  rw[venue_kills_l0,condD (by omega),bindS e2,condN (by omega),condN (by omega),wr_succ (by omega)]
  by_cases h0:0 < i
  ·obtain⟨r,f1,f2⟩:=some_get (l:=l) (i:=i-1) (by omega)
   have:=g3 h0 r f1
   rw[condD (by omega),wr_pred h0 (by omega),bindS f2,condN (by omega)]
  ·rw[condN (by omega)]
 have hf:∀n i:Nat,i < l.length→¬(∀s,l[i]?=some s→0≤s∧s < m∧(0 < i→∀r,l[i-1]?=some r→r < s))→venue_kills_l0 k l m (n+1) (i:Int)=some (.rt false):=by
  intro n i hi hg
  obtain⟨s,e1,e2⟩:=some_get hi
  rw[venue_kills_l0,condD (by omega),bindS e2]
  by_cases g1:s < 0
  ·rw[condD g1]
  rw[condN g1]
  by_cases g2:m≤s
  ·rw[condD g2]
  rw[condN g2]
  by_cases h0:0 < i
  ·obtain⟨r,f1,f2⟩:=some_get (l:=l) (i:=i-1) (by omega)
   rw[condD (by omega),wr_pred h0 (by omega),bindS f2,condD]
   apply Classical.byContradiction
   intro hh
   refine hg fun s' e'=>?_
   rw[e1] at e'
   cases e'
   refine⟨by omega,by omega,fun _ r' f'=>?_⟩
   rw[f1] at f'
   cases f'
   omega
  ·refine absurd (fun s' e'=>?_) hg
   rw[e1] at e'
   cases e'
   exact⟨by omega,by omega,fun h=>absurd h h0⟩
 have he:∀n,venue_kills_l0 k l m (n+1) (l.length:Int)=some (.go ()):=fun n=>by rw[venue_kills_l0,condN (by omega)]
 rcases scan _ hs hf he hl with⟨g,e⟩ | ⟨g,e⟩
 ·rw[bindS e,elim_go]
  refine⟨_,rfl,?_⟩
  rw[decide_eq_true_iff]
  constructor
  ·intro a;exact⟨g,by omega⟩
  ·rintro ⟨_,a⟩;omega
 ·rw[bindS e,elim_rt]
  exact⟨_,rfl,by simp;exact fun h=>absurd h g⟩
theorem ref2_kills_eq (k:Nat) (l:List Int) (m:Int) (hl:l.length < k) (hb:l.length≤4294967295) (hm:0≤m∧m≤4294967295):∃b,ref2_kills k l m=some b∧(b=true ↔ KillsP l m∧l.length≤200):=by
 unfold ref2_kills
 have hs:∀n i:Nat,i < l.length→(∀s,l[i]?=some s→0≤s∧s < m∧(0 < i→∀r,l[i-1]?=some r→r < s))→ref2_kills_l0 k l m (n+1) (i:Int)=ref2_kills_l0 k l m n ((i+1:Nat):Int):=by
  intro n i hi hg
  obtain⟨s,e1,e2⟩:=some_get hi
  obtain⟨g1,g2,g3⟩:=hg s e1
  rw[ref2_kills_l0,condD (by omega),bindS e2,bindS (ref2_in_eq _ _ _ _),wr_id (x:=m-1) (by omega) (by omega),condNT ⟨by omega,by omega⟩,wr_succ (by omega)]
  by_cases h0:0 < i
  ·obtain⟨r,f1,f2⟩:=some_get (l:=l) (i:=i-1) (by omega)
   have:=g3 h0 r f1
   rw[condD (by omega),bindS e2,wr_pred h0 (by omega),bindS f2,condN (by omega)]
  ·rw[condN (by omega)]
 have hf:∀n i:Nat,i < l.length→¬(∀s,l[i]?=some s→0≤s∧s < m∧(0 < i→∀r,l[i-1]?=some r→r < s))→ref2_kills_l0 k l m (n+1) (i:Int)=some (.rt false):=by
  intro n i hi hg
  obtain⟨s,e1,e2⟩:=some_get hi
  rw[ref2_kills_l0,condD (by omega),bindS e2,bindS (ref2_in_eq _ _ _ _),wr_id (x:=m-1) (by omega) (by omega)]
  by_cases g1:InP s 0 (m-1)
  ·rw[condNT g1]
   by_cases h0:0 < i
   ·obtain⟨r,f1,f2⟩:=some_get (l:=l) (i:=i-1) (by omega)
    rw[condD (by omega),bindS e2,wr_pred h0 (by omega),bindS f2,condD]
    apply Classical.byContradiction
    intro hh
    refine hg fun s' e'=>?_
    rw[e1] at e'
    cases e'
    refine⟨by omega,by omega,fun _ r' f'=>?_⟩
    rw[f1] at f'
    cases f'
    omega
   ·refine absurd (fun s' e'=>?_) hg
    rw[e1] at e'
    cases e'
    exact⟨by omega,by omega,fun h=>absurd h h0⟩
  ·rw[condNF g1]
 have he:∀n,ref2_kills_l0 k l m (n+1) (l.length:Int)=some (.go ()):=fun n=>by rw[ref2_kills_l0,condN (by omega)]
 rcases scan _ hs hf he hl with⟨g,e⟩ | ⟨g,e⟩
 ·rw[bindS e,elim_go]
  refine⟨_,rfl,?_⟩
  rw[decide_eq_true_iff]
  constructor
  ·intro a;exact⟨g,by omega⟩
  ·rintro ⟨_,a⟩;omega
 ·rw[bindS e,elim_rt]
  exact⟨_,rfl,by simp;exact fun h=>absurd h g⟩
theorem venue_poles_eq (k:Nat) (l:List Pole) (hl:l.length < k) (hb:l.length≤4294967295):∃b,venue_poles k l=some b∧(b=true ↔ PolesP l∧l.length≤200):=by
 unfold venue_poles
 have hs:∀n i:Nat,i < l.length→(∀s,l[i]?=some s→CoordP s.X∧CoordP s.Y∧InP s.R 1 1048576)→venue_poles_l0 k l (n+1) (i:Int)=venue_poles_l0 k l n ((i+1:Nat):Int):=by
  intro n i hi hg
  obtain⟨s,e1,e2⟩:=some_get hi
  obtain⟨g1,g2,g3⟩:=hg s e1
  rw[venue_poles_l0,condD (by omega),bindS e2,bindS (venue_Coord_eq _ _),condNT g1,bindS (venue_Coord_eq _ _),condNT g2,bindS (venue_Reach_eq _ _),condNT g3,wr_succ (by omega)]
 have hf:∀n i:Nat,i < l.length→¬(∀s,l[i]?=some s→CoordP s.X∧CoordP s.Y∧InP s.R 1 1048576)→venue_poles_l0 k l (n+1) (i:Int)=some (.rt false):=by
  intro n i hi hg
  obtain⟨s,e1,e2⟩:=some_get hi
  rw[venue_poles_l0,condD (by omega),bindS e2,bindS (venue_Coord_eq _ _),bindS (venue_Coord_eq _ _),bindS (venue_Reach_eq _ _)]
  by_cases g1:CoordP s.X
  ·by_cases g2:CoordP s.Y
   ·by_cases g3:InP s.R 1 1048576
    ·refine absurd (fun s' e'=>?_) hg
     rw[e1] at e'
     cases e'
     exact⟨g1,g2,g3⟩
    ·rw[condNT g1,condNT g2,condNF g3]
   ·rw[condNT g1,condNF g2]
  ·rw[condNF g1]
 have he:∀n,venue_poles_l0 k l (n+1) (l.length:Int)=some (.go ()):=fun n=>by rw[venue_poles_l0,condN (by omega)]
 rcases scan _ hs hf he hl with⟨g,e⟩ | ⟨g,e⟩
 ·rw[bindS e,elim_go]
  refine⟨_,rfl,?_⟩
  rw[decide_eq_true_iff]
  constructor
  ·intro a;exact⟨g,by omega⟩
  ·rintro ⟨_,a⟩;omega
 ·rw[bindS e,elim_rt]
  exact⟨_,rfl,by simp;exact fun h=>absurd h g⟩
theorem ref2_poles_eq (k:Nat) (l:List Pole) (hl:l.length < k) (hb:l.length≤4294967295):∃b,ref2_poles k l=some b∧(b=true ↔ PolesP l∧l.length≤200):=by
 unfold ref2_poles
 have hs:∀n i:Nat,i < l.length→(∀s,l[i]?=some s→CoordP s.X∧CoordP s.Y∧InP s.R 1 1048576)→ref2_poles_l0 k l (n+1) (i:Int)=ref2_poles_l0 k l n ((i+1:Nat):Int):=by
  intro n i hi hg
  obtain⟨s,e1,e2⟩:=some_get hi
  obtain⟨g1,g2,g3⟩:=hg s e1
  rw[ref2_poles_l0,condD (by omega),bindS e2,bindS (ref2_coord_eq _ _),condNT g1,bindS e2,bindS (ref2_coord_eq _ _),condNT g2,bindS e2,bindS (ref2_in_eq _ _ _ _),condNT g3,wr_succ (by omega)]
 have hf:∀n i:Nat,i < l.length→¬(∀s,l[i]?=some s→CoordP s.X∧CoordP s.Y∧InP s.R 1 1048576)→ref2_poles_l0 k l (n+1) (i:Int)=some (.rt false):=by
  intro n i hi hg
  obtain⟨s,e1,e2⟩:=some_get hi
  rw[ref2_poles_l0,condD (by omega),bindS e2,bindS (ref2_coord_eq _ _),bindS e2,bindS (ref2_coord_eq _ _),bindS e2,bindS (ref2_in_eq _ _ _ _)]
  by_cases g1:CoordP s.X
  ·by_cases g2:CoordP s.Y
   ·by_cases g3:InP s.R 1 1048576
    ·refine absurd (fun s' e'=>?_) hg
     rw[e1] at e'
     cases e'
     exact⟨g1,g2,g3⟩
    ·rw[condNT g1,condNT g2,condNF g3]
   ·rw[condNT g1,condNF g2]
  ·rw[condNF g1]
 have he:∀n,ref2_poles_l0 k l (n+1) (l.length:Int)=some (.go ()):=fun n=>by rw[ref2_poles_l0,condN (by omega)]
 rcases scan _ hs hf he hl with⟨g,e⟩ | ⟨g,e⟩
 ·rw[bindS e,elim_go]
  refine⟨_,rfl,?_⟩
  rw[decide_eq_true_iff]
  constructor
  ·intro a;exact⟨g,by omega⟩
  ·rintro ⟨_,a⟩;omega
 ·rw[bindS e,elim_rt]
  exact⟨_,rfl,by simp;exact fun h=>absurd h g⟩
theorem notT {b:Bool} {p:Prop} (h:b=true ↔ p):(p∧b=true)∨(¬p∧b=false):=by
 cases b
 ·exact .inr ⟨fun hp=>absurd (h.2 hp) (by simp),rfl⟩
 ·exact .inl ⟨h.1 rfl,rfl⟩
theorem may_no {v:Venue} (h:¬MayV v):mayB v=false:=by
 cases e:mayB v
 ·rfl
 ·exact absurd (mayB_iff.1 e) h
theorem venue_May_eq (k:Nat) (v:Venue) (h1:v.Seats.length < k) (h2:v.Kills.length < k) (h3:v.Poles.length < k) (hk:k≤4294967295):venue_May k v=some (mayB v):=by
 unfold venue_May venue_Wrong
 obtain⟨b1,e1,g1⟩:=venue_seats_eq k v.Seats h1 (by omega)
 obtain⟨b2,e2,g2⟩:=venue_kills_eq k v.Kills (v.Seats.length:Int) h2 (by omega)
 obtain⟨b3,e3,g3⟩:=venue_poles_eq k v.Poles h3 (by omega)
 rw[bindS e1,bindS (venue_Reach_eq _ _),bindS (venue_in_eq _ _ _ _),bindS e2,bindS e3]
 rcases notT g1 with⟨p1,rfl⟩ | ⟨p1,rfl⟩
 ·by_cases p4:InP v.Gap 1 1048576
  ·by_cases p5:InP v.Radius 0 1048576
   ·rcases notT g2 with⟨p2,rfl⟩ | ⟨p2,rfl⟩
    ·rcases notT g3 with⟨p3,rfl⟩ | ⟨p3,rfl⟩
     ·rw[mayB_iff.2 ⟨p1.1,p1.2.1,p1.2.2,p4,p5,p2.1,p2.2,p3.1,p3.2⟩,condNT p4,condNT p5]
      rfl
     ·rw[may_no (fun h=>p3 ⟨h.poles,h.p1⟩),condNT p4,condNT p5]
      rfl
    ·rw[may_no (fun h=>p2 ⟨h.kills,h.k1⟩),condNT p4,condNT p5]
     rfl
   ·rw[may_no (fun h=>p5 h.radius),condNT p4,condNF p5]
    rfl
  ·rw[may_no (fun h=>p4 h.gap),condNF p4]
   rfl
 ·rw[may_no (fun h=>p1 ⟨h.seats,h.n0,h.n1⟩)]
  rfl
theorem ref2_May_eq (k:Nat) (v:Venue) (h1:v.Seats.length < k) (h2:v.Kills.length < k) (h3:v.Poles.length < k) (hk:k≤4294967295):ref2_May k v=some (mayB v):=by
 unfold ref2_May ref2_Wrong
 obtain⟨b1,e1,g1⟩:=ref2_seats_eq k v.Seats h1 (by omega)
 obtain⟨b2,e2,g2⟩:=ref2_kills_eq k v.Kills (v.Seats.length:Int) h2 (by omega) (by omega)
 obtain⟨b3,e3,g3⟩:=ref2_poles_eq k v.Poles h3 (by omega)
 rw[bindS e1,bindS (ref2_in_eq _ _ _ _),bindS (ref2_in_eq _ _ _ _),bindS e2,bindS e3]
 rcases notT g1 with⟨p1,rfl⟩ | ⟨p1,rfl⟩
 ·by_cases p4:InP v.Gap 1 1048576
  ·by_cases p5:InP v.Radius 0 1048576
   ·rcases notT g2 with⟨p2,rfl⟩ | ⟨p2,rfl⟩
    ·rcases notT g3 with⟨p3,rfl⟩ | ⟨p3,rfl⟩
     ·rw[mayB_iff.2 ⟨p1.1,p1.2.1,p1.2.2,p4,p5,p2.1,p2.2,p3.1,p3.2⟩,condNT p4,condNT p5]
      rfl
     ·rw[may_no (fun h=>p3 ⟨h.poles,h.p1⟩),condNT p4,condNT p5]
      rfl
    ·rw[may_no (fun h=>p2 ⟨h.kills,h.k1⟩),condNT p4,condNT p5]
     rfl
   ·rw[may_no (fun h=>p5 h.radius),condNT p4,condNF p5]
    rfl
  ·rw[may_no (fun h=>p4 h.gap),condNF p4]
   rfl
 ·rw[may_no (fun h=>p1 ⟨h.seats,h.n0,h.n1⟩)]
  rfl
end Go.Px

set_option linter.unusedVariables false
set_option linter.unusedSimpArgs false
namespace Go.Px
open Go Go.Sh
theorem snoc_get {α:Type} {l:List α} {x s : α} {j:Nat} (h:(l++[x])[j]?=some s):(j < l.length∧l[j]?=some s)∨(j=l.length∧s=x):=by
 rcases Nat.lt_or_ge j l.length with hl | hl
 ·rw[List.getElem?_append_left hl] at h
  exact .inl ⟨hl,h⟩
 ·rw[List.getElem?_append_right hl] at h
  rcases Nat.eq_or_lt_of_le hl with e | hl
  ·rw[← e,Nat.sub_self] at h
   simp at h
   exact .inr ⟨e.symm,h.symm⟩
  ·rw[List.getElem?_eq_none (by simp;omega)] at h
   cases h
theorem SeatsP.snoc {l:List Seat} {x:Seat} (h:SeatsP l) (hx:SeatP x) (hl:∀r,l[l.length-1]?=some r→LessP r x):SeatsP (l++[x]):=by
 intro j hj s hs
 rcases snoc_get hs with⟨h1,h2⟩ | ⟨h1,rfl⟩
 ·refine⟨(h j h1 s h2).1,fun h0 r hr=>(h j h1 s h2).2 h0 r ?_⟩
  rcases snoc_get hr with⟨_,hr⟩ | ⟨e,_⟩
  ·exact hr
  ·omega
 ·refine⟨hx,fun h0 r hr=>?_⟩
  rcases snoc_get hr with⟨_,hr⟩ | ⟨e,_⟩
  ·rw[h1] at hr
   exact hl r hr
  ·omega
theorem KillsP.snoc {l:List Int} {x m:Int} (h:KillsP l x) (h0:0≤x) (hx:x < m):KillsP (l++[x]) m:=by
 intro j hj s hs
 rcases snoc_get hs with⟨h1,h2⟩ | ⟨h1,rfl⟩
 ·obtain⟨a,b,c⟩:=h j h1 s h2
  refine⟨a,by omega,fun h0 r hr=>c h0 r ?_⟩
  rcases snoc_get hr with⟨_,hr⟩ | ⟨e,_⟩
  ·exact hr
  ·omega
 ·refine⟨h0,hx,fun h0 r hr=>?_⟩
  rcases snoc_get hr with⟨hl,hr⟩ | ⟨e,_⟩
  ·exact(h _ hl r hr).2.1
  ·omega
theorem KillsP.mono {l:List Int} {x m:Int} (h:KillsP l x) (hx:x≤m):KillsP l m:=fun j hj s hs=>by
 obtain⟨a,b,c⟩:=h j hj s hs
 exact⟨a,by omega,c⟩
theorem PolesP.snoc {l:List Pole} {x:Pole} (h:PolesP l) (hx:CoordP x.X∧CoordP x.Y∧InP x.R 1 1048576):PolesP (l++[x]):=by
 intro j hj s hs
 rcases snoc_get hs with⟨h1,h2⟩ | ⟨h1,rfl⟩
 ·exact h j h1 s h2
 ·exact hx
structure MkI (S:List Seat) (rad:Int) (K:List Int) (P:List Pole) (row x:Int) (i:Nat):Prop where
 len:S.length=i+1
 seats:SeatsP S
 last:∀r,S[S.length-1]?=some r→r.Row=row∧r.X=x
 r0:0≤row
 r1:row≤i
 x0:0≤x
 x1:x≤15 * (i:Int)
 rad0:InP rad 0 24
 kills:KillsP K S.length
 kl:K.length≤S.length
 poles:PolesP P
 pl:P.length≤S.length
 sm:∀s,s ∈ S→InP s.X 0 (15 * (i:Int))∧InP s.Y 0 (10 * (i:Int))
structure MkF (m:Nat) (o:List Seat×Int×List Int×List Pole):Prop where
 seats:SeatsP o.1
 n0:1≤o.1.length
 n1:o.1.length≤m
 rad:InP o.2.1 0 24
 kills:KillsP o.2.2.1 o.1.length
 kl:o.2.2.1.length≤m
 poles:PolesP o.2.2.2
 pl:o.2.2.2.length≤m
 sm:∀s,s ∈ o.1→InP s.X 0 1500∧InP s.Y 0 1000
theorem make_l0 (k:Nat) (l:List Int) (m:Nat) (hm:m≤100):∀(n:Nat) S rad K P row x (i:Nat),MkI S rad K P row x i→S.length≤m→m-S.length < n→∃o,law3_Make_l0 k l (m:Int) n S rad K P row x (i:Int)=some o∧MkF m o
 | 0,S,rad,K,P,row,x,i,_,_,h=>absurd h (by omega)
 | n+1,S,rad,K,P,row,x,i,hI,hS,hn=>by
  have hlen:=hI.len
  have hx0:=hI.x0
  have hx1:=hI.x1
  have hr0:=hI.r0
  have hr1:=hI.r1
  have hkl:=hI.kl
  have hpl:=hI.pl
  rw[law3_Make_l0]
  by_cases hc:i < l.length∧S.length < m
  ·rw[condD (by omega),bindS rfl,condD (by omega)]
   obtain⟨y,_,e2⟩:=some_get hc.1
   rw[bindS e2]
   have h108:∃o:Int×Int,(cond (decide (((IntKind.u64.wrap y).tmod 7)=0)) (some (wr (row+1),0)) (cond (decide (((IntKind.u64.wrap y).tmod 7)=1)) (some (row,wr ((wr (x+10))+5))) (some (row,wr (x+10)))))=some o∧((o.1=row+1∧o.2=0)∨(o.1=row∧x < o.2∧o.2≤x+15)):=by
    rw[wr_id (x:=row+1) (by omega) (by omega),wr_id (x:=x+10) (by omega) (by omega),wr_id (x:=x+10+5) (by omega) (by omega)]
    by_cases c1:(IntKind.u64.wrap y).tmod 7=0
    ·rw[condD c1];exact⟨_,rfl,.inl ⟨rfl,rfl⟩⟩
    rw[condN c1]
    by_cases c2:(IntKind.u64.wrap y).tmod 7=1
    ·rw[condD c2];exact⟨_,rfl,.inr ⟨rfl,by simp only;omega,by simp only;omega⟩⟩
    ·rw[condN c2];exact⟨_,rfl,.inr ⟨rfl,by simp only;omega,by simp only;omega⟩⟩
   obtain⟨o,e108,ho⟩:=h108
   rw[bindS e108]
   have h116:∃kd:Int,(cond (decide (((IntKind.u64.wrap ((IntKind.u64.wrap y).tdiv 7)).tmod 6)=0)) (some (1:Int)) (cond (decide (((IntKind.u64.wrap ((IntKind.u64.wrap y).tdiv 7)).tmod 6)=1)) (some 2) (cond (decide (((IntKind.u64.wrap ((IntKind.u64.wrap y).tdiv 7)).tmod 6)=2)) (some 2) (some 0))))=some kd∧InP kd 0 2:=by
    generalize (IntKind.u64.wrap ((IntKind.u64.wrap y).tdiv 7)).tmod 6=q
    by_cases c1:q=0
    ·rw[condD c1];exact⟨_,rfl,by omega⟩
    rw[condN c1]
    by_cases c2:q=1
    ·rw[condD c2];exact⟨_,rfl,by omega⟩
    rw[condN c2]
    by_cases c3:q=2
    ·rw[condD c3];exact⟨_,rfl,by omega⟩
    ·rw[condN c3];exact⟨_,rfl,by omega⟩
   obtain⟨kd,e116,hkd⟩:=h116
   have hrow:wr (10 * o.1)=10 * o.1:=wr_id (by omega) (by omega)
   have hl1:(S++[Seat.mk o.1 o.2 (10 * o.1) kd]).length=S.length+1:=by simp
   rw[bindS e116,hrow,gdD (by simp only[List.length_singleton];omega),hl1,show wr (((S.length+1:Nat):Int)-1)=(S.length:Int) by rw[wr_id (by omega) (by omega)];omega]
   have h125:∃K',(cond (decide (((IntKind.u64.wrap ((IntKind.u64.wrap y).tdiv 42)).tmod 9)=0)) (gd (decide (K.length+([(S.length:Int)]).length≤4294967296)) (some (K++[(S.length:Int)]))) (some K))=some K'∧KillsP K' ((S.length+1:Nat):Int)∧K'.length≤S.length+1:=by
    generalize (IntKind.u64.wrap ((IntKind.u64.wrap y).tdiv 42)).tmod 9=q
    by_cases c1:q=0
    ·rw[condD c1,gdD (by simp only[List.length_singleton];omega)]
     exact⟨_,rfl,hI.kills.snoc (by omega) (by omega),by simp;omega⟩
    ·rw[condN c1]
     exact⟨_,rfl,hI.kills.mono (by omega),by omega⟩
   obtain⟨K',e125,hK,hKl⟩:=h125
   rw[bindS e125]
   obtain⟨q0,q1⟩:=um ((IntKind.u64.wrap y).tdiv 500) 12 (by omega)
   have h132:∃P',(cond (decide (((IntKind.u64.wrap ((IntKind.u64.wrap y).tdiv 42)).tmod 11)=1)) (gd (decide (P.length+([Pole.mk o.2 (10 * o.1) (wr (1+(wr ((IntKind.u64.wrap ((IntKind.u64.wrap y).tdiv 500)).tmod 12))))]).length≤4294967296)) (some (P++[Pole.mk o.2 (10 * o.1) (wr (1+(wr ((IntKind.u64.wrap ((IntKind.u64.wrap y).tdiv 500)).tmod 12))))]))) (some P))=some P'∧PolesP P'∧P'.length≤S.length+1:=by
    generalize (IntKind.u64.wrap ((IntKind.u64.wrap y).tdiv 42)).tmod 11=q
    rw[wr_id (x:=(IntKind.u64.wrap ((IntKind.u64.wrap y).tdiv 500)).tmod 12) (by omega) (by omega),wr_id (x:=1+(IntKind.u64.wrap ((IntKind.u64.wrap y).tdiv 500)).tmod 12) (by omega) (by omega)]
    by_cases c1:q=1
    ·rw[condD c1,gdD (by simp only[List.length_singleton];omega)]
     exact⟨_,rfl,hI.poles.snoc ⟨by simp only;omega,by simp only;omega,by simp only;omega⟩,by simp;omega⟩
    ·rw[condN c1]
     exact⟨_,rfl,hI.poles,by omega⟩
   obtain⟨P',e132,hP,hPl⟩:=h132
   rw[bindS e132,wr_succ (by omega)]
   obtain⟨w0,w1⟩:=um ((IntKind.u64.wrap y).tdiv 300) 25 (by omega)
   have hN:∀rad',InP rad' 0 24→MkI (S++[Seat.mk o.1 o.2 (10 * o.1) kd]) rad' K' P' o.1 o.2 (i+1):=fun rad' hr=>by
    refine⟨by rw[hl1];omega,hI.seats.snoc ⟨by simp only;omega,by simp only;omega,by simp only;omega,hkd⟩ (fun r hr=>?_),fun r hr=>?_,by omega,by omega,by omega,by omega,hr,by rw[hl1];exact hK,by rw[hl1];exact hKl,hP,by rw[hl1];exact hPl,fun s hs=>?_⟩
    ·obtain⟨a,b⟩:=hI.last r hr
     show r.Row < o.1∨(r.Row=o.1∧r.X < o.2)
     omega
    ·rw[hl1] at hr
     rcases snoc_get hr with⟨h1,h2⟩ | ⟨_,rfl⟩
     ·omega
     ·exact⟨rfl,rfl⟩
    ·rcases List.mem_append.1 hs with h | h
     ·have:=hI.sm s h
      exact⟨by omega,by omega⟩
     ·rw[List.mem_singleton] at h
      subst h
      exact⟨by simp only;omega,by simp only;omega⟩
   have hrec:∀rad',InP rad' 0 24→∃o',law3_Make_l0 k l (m:Int) n (S++[Seat.mk o.1 o.2 (10 * o.1) kd]) rad' K' P' o.1 o.2 ((i+1:Nat):Int)=some o'∧MkF m o':=fun rad' hr =>
    make_l0 k l m hm n _ rad' K' P' o.1 o.2 (i+1) (hN rad' hr) (by rw[hl1];omega) (by rw[hl1];omega)
   generalize (IntKind.u64.wrap ((IntKind.u64.wrap y).tdiv 42)).tmod 5=q
   by_cases c1:q=3
   ·rw[condD c1,wr_id (x:=(IntKind.u64.wrap ((IntKind.u64.wrap y).tdiv 300)).tmod 25) (by omega) (by omega)]
    exact hrec _ (by omega)
   ·rw[condN c1]
    exact hrec _ hI.rad0
  ·have:(cond (decide ((i:Int) < (l.length:Int))) (some (decide ((S.length:Int) < (m:Int)))) (some false))=some false:=by
    by_cases c1:i < l.length
    ·rw[condD (by omega),decide_eq_false (by omega)]
    ·rw[condN (by omega)]
   rw[this,bindS rfl,condF rfl]
   exact⟨_,rfl,hI.seats,by simp only;omega,hS,hI.rad0,hI.kills,by simp only;omega,hI.poles,by simp only;omega,fun s hs=>by have:=hI.sm s hs;exact⟨by omega,by omega⟩⟩
structure MadeV (m:Nat) (v:Venue):Prop where
 may:MayV v
 n1:v.Seats.length≤m
 gap:v.Gap=10
 rad:InP v.Radius 0 24
 kl:v.Kills.length≤m
 pl:v.Poles.length≤m
 sm:∀s,s ∈ v.Seats→InP s.X 0 1500∧InP s.Y 0 1000
theorem law3_Make_eq (k:Nat) (l:List Int) (m:Nat) (h1:1≤m) (hm:m≤100) (hk:100≤k):∃v,law3_Make k l (m:Int)=some v∧MadeV m v:=by
 unfold law3_Make
 have hI:MkI [Seat.mk 0 0 0 0] 0 [] [] 0 0 0:=by
  refine⟨rfl,?_,?_,by omega,by omega,by omega,by omega,by omega,?_,by simp,?_,by simp,fun s hs=>by rw[List.mem_singleton] at hs;subst hs;exact⟨by simp only;omega,by simp only;omega⟩⟩
  ·intro j hj s hs
   have:j=0:=by simp at hj;omega
   subst this
   simp at hs
   subst hs
   exact⟨by decide,fun h=>absurd h (by omega)⟩
  ·intro r hr
   simp at hr
   subst hr
   exact⟨rfl,rfl⟩
  ·intro j hj
   simp at hj
  ·intro j hj
   simp at hj
 obtain⟨o,e,h⟩:=make_l0 k l m hm k _ _ _ _ _ _ 0 hI (by simpa using h1) (by simp;omega)
 have e':law3_Make_l0 k l (m:Int) k [Seat.mk 0 0 0 0] 0 [] [] 0 0 0=some o:=e
 rw[bindS e']
 have a1:=h.n1
 have a2:=h.kl
 have a3:=h.pl
 have a4:=h.rad
 exact⟨_,rfl,⟨h.seats,h.n0,by simp only;omega,by simp only;omega,by simp only;omega,h.kills,by simp only;omega,h.poles,by simp only;omega⟩,h.n1,rfl,h.rad,h.kl,h.pl,h.sm⟩
end Go.Px

set_option linter.unusedVariables false
set_option linter.unusedSimpArgs false
namespace Go.Px
open Go Go.Sh
theorem scanR {ρ:Type} {f:Nat→Int→Option (Ex Unit ρ)} {len:Nat} (good:Nat→Prop) (R : ρ→Prop)
  (hs:∀n i:Nat,i < len→good i→f (n+1) (i:Int)=f n ((i+1:Nat):Int))
  (hf:∀n i:Nat,i < len→¬good i→∃r,f (n+1) (i:Int)=some (.rt r)∧R r)
  (he:∀n,f (n+1) (len:Int)=some (.go ())):∀d n i:Nat,i+d=len→d < n →
  ((∀j,i≤j→j < len→good j)∧f n (i:Int)=some (.go ()))∨((∃j,i≤j∧j < len∧¬good j)∧∃r,f n (i:Int)=some (.rt r)∧R r)
 | d,0,i,_,h=>absurd h (by omega)
 | 0,n+1,i,hi,_=>by
  obtain rfl:i=len:=by omega
  exact .inl ⟨fun j h1 h2=>by omega,he n⟩
 | d+1,n+1,i,hi,h=>by
  rcases Classical.em (good i) with hh | hh
  ·rw[hs n i (by omega) hh]
   rcases scanR good R hs hf he d n (i+1) (by omega) (by omega) with⟨a,b⟩ | ⟨⟨j,a1,a2,a3⟩,b⟩
   ·refine .inl ⟨fun j h1 h2=>?_,b⟩
    rcases Nat.lt_or_ge i j with hl | hl
    ·exact a j hl h2
    ·rw[show j=i by omega];exact hh
   ·exact .inr ⟨⟨j,by omega,a2,a3⟩,b⟩
  ·exact .inr ⟨⟨i,by omega,by omega,hh⟩,hf n i (by omega) hh⟩
theorem sq_le {d:Int} (h:InP d (-2097152) 2097152):0≤d * d∧d * d≤4398046511104:=by
 have:d * d=((d.natAbs * d.natAbs:Nat):Int):=(Int.natAbs_mul_self' d).symm
 have h2:d.natAbs * d.natAbs≤2097152 * 2097152:=Nat.mul_le_mul (by omega) (by omega)
 omega
def far (a b:Seat):Int:=if CoordP a.X∧CoordP a.Y∧CoordP b.X∧CoordP b.Y then (a.X-b.X) * (a.X-b.X)+(a.Y-b.Y) * (a.Y-b.Y) else 0
theorem far_wr {a b:Seat} (h:CoordP a.X∧CoordP a.Y∧CoordP b.X∧CoordP b.Y):wr ((wr ((wr (a.X-b.X)) * (wr (a.X-b.X))))+(wr ((wr (a.Y-b.Y)) * (wr (a.Y-b.Y)))))=far a b:=by
 unfold far
 rw[if_pos h]
 have h1:=sq_le (d:=a.X-b.X) (by omega)
 have h2:=sq_le (d:=a.Y-b.Y) (by omega)
 rw[wr_id (x:=a.X-b.X) (by omega) (by omega),wr_id (x:=a.Y-b.Y) (by omega) (by omega),wr_id (x:=(a.X-b.X) * (a.X-b.X)) (by omega) (by omega),wr_id (x:=(a.Y-b.Y) * (a.Y-b.Y)) (by omega) (by omega)]
 exact wr_id (by omega) (by omega)
theorem geom_Far_eq (k:Nat) (a b:Seat) (hk:3≤k):geom_Far k a b=some (far a b):=by
 obtain⟨n,rfl⟩:∃n,k=n+3:=⟨k-3,by omega⟩
 unfold geom_Far
 have i0:idx [a,b] 0=some a:=rfl
 have i1:idx [a,b] 1=some b:=rfl
 have w1:wr (0+1)=1:=by decide
 have w2:wr (1+1)=2:=by decide
 rw[geom_Far_l0,condD (by show(0:Int) < 2;omega),bindS i0,bindS (venue_Coord_eq _ _),bindS (venue_Coord_eq _ _)]
 by_cases h1:CoordP a.X
 ·rw[condNT h1]
  by_cases h2:CoordP a.Y
  ·rw[condNT h2,w1,geom_Far_l0,condD (by show(1:Int) < 2;omega),bindS i1,bindS (venue_Coord_eq _ _),bindS (venue_Coord_eq _ _)]
   by_cases h3:CoordP b.X
   ·rw[condNT h3]
    by_cases h4:CoordP b.Y
    ·rw[condNT h4,w2,geom_Far_l0,condN (by show ¬(2:Int) < 2;omega),bindS rfl,elim_go,far_wr ⟨h1,h2,h3,h4⟩]
    ·rw[condNF h4,bindS rfl,elim_rt,far,if_neg (fun h=>h4 h.2.2.2)]
   ·rw[condNF h3,bindS rfl,elim_rt,far,if_neg (fun h=>h3 h.2.2.1)]
  ·rw[condNF h2,bindS rfl,elim_rt,far,if_neg (fun h=>h2 h.2.1)]
 ·rw[condNF h1,bindS rfl,elim_rt,far,if_neg (fun h=>h1 h.1)]
theorem ref6_Far_eq (k:Nat) (a b:Seat):ref6_Far k a b=some (far a b):=by
 unfold ref6_Far ref6_square
 rw[bindS (ref6_coord_eq _ _),bindS (ref6_coord_eq _ _),bindS (ref6_coord_eq _ _),bindS (ref6_coord_eq _ _)]
 by_cases h1:CoordP a.X
 ·rw[condNT h1]
  by_cases h2:CoordP a.Y
  ·rw[condNT h2]
   by_cases h3:CoordP b.X
   ·rw[condNT h3]
    by_cases h4:CoordP b.Y
    ·rw[condNT h4,bindS rfl,bindS rfl,far_wr ⟨h1,h2,h3,h4⟩]
    ·rw[condNF h4,far,if_neg (fun h=>h4 h.2.2.2)]
   ·rw[condNF h3,far,if_neg (fun h=>h3 h.2.2.1)]
  ·rw[condNF h2,far,if_neg (fun h=>h2 h.2.1)]
 ·rw[condNF h1,far,if_neg (fun h=>h1 h.1)]
def closeB (a b:Seat) (r:Int):Bool:=decide (far a b < wr (r * r))
theorem geom_Close_eq (k:Nat) (a b:Seat) (r:Int) (hk:3≤k):geom_Close k a b r=some (closeB a b r):=by
 unfold geom_Close
 rw[bindS (geom_Far_eq k a b hk)]
 rfl
theorem ref6_square_eq (k:Nat) (r:Int) (h:okI r):ref6_square k r 0=some (wr (r * r)):=by
 obtain⟨h1,h2⟩:=h
 unfold ref6_square
 rw[Int.sub_zero,wr_id (x:=r) (by omega) (by omega)]
theorem idx_mem {l:List Int} {x:Int} : (∀j,j < l.length→∀s,l[j]?=some s→s ≠ x) ↔ x ∉ l:=by
 constructor
 ·intro h hx
  obtain⟨j,hj,e⟩:=List.getElem_of_mem hx
  exact h j hj x (by rw[List.getElem?_eq_getElem hj,e]) rfl
 ·intro h j hj s e hs
  exact h (by rw[← hs];exact List.mem_of_getElem? e)
theorem slices_Contains_int_eq (k:Nat) (l:List Int) (x:Int) (hl:l.length < k) (hb:l.length≤4294967295):slices_Contains_int k l x=some (decide (x ∈ l)):=by
 unfold slices_Contains_int slices_Index_int
 have h:=scanR (f:=fun n i=>slices_Index_int_l0 k l x n i) (len:=l.length) (fun j=>∀s,l[j]?=some s→s ≠ x) (fun r=>0≤r)
  (fun n i hi hg=>by
   obtain⟨s,e1,e2⟩:=some_get hi
   have:=hg s e1
   show slices_Index_int_l0 k l x (n+1) (i:Int)=_
   rw[slices_Index_int_l0,condD (by omega),bindS e2,condN (fun h=>this h.symm),wr_succ (by omega)])
  (fun n i hi hg=>by
   obtain⟨s,e1,e2⟩:=some_get hi
   refine⟨(i:Int),?_,by omega⟩
   show slices_Index_int_l0 k l x (n+1) (i:Int)=_
   rw[slices_Index_int_l0,condD (by omega),bindS e2,condD]
   apply Classical.byContradiction
   intro hh
   refine hg fun s' e' hx=>?_
   rw[e1] at e'
   cases e'
   exact hh hx.symm)
  (fun n=>by show slices_Index_int_l0 k l x (n+1) _=_;rw[slices_Index_int_l0,condN (by omega)])
  l.length k 0 (by omega) hl
 rcases h with⟨a,b⟩ | ⟨⟨j,_,a2,a3⟩,r,b,hr⟩
 ·have b:slices_Index_int_l0 k l x k 0=_:=b
  rw[bindS b,elim_go,bindS rfl,decide_eq_false (by omega),decide_eq_false (idx_mem.1 fun j hj=>a j (by omega) hj)]
 ·have b:slices_Index_int_l0 k l x k 0=_:=b
  rw[bindS b,elim_rt,bindS rfl,decide_eq_true hr,decide_eq_true]
  apply Classical.byContradiction
  intro hx
  exact a3 (fun s e=>idx_mem.2 hx j a2 s e)
def poleS (p:Pole):Seat:=Seat.mk 0 p.X p.Y 0
instance:Inhabited Seat:=⟨Seat.mk 0 0 0 0⟩
def poleB (v:Venue) (s j:Nat):Bool:=closeB (v.Seats.getD s default) (poleS (v.Poles.getD j default)) (v.Poles.getD j default).R
def killL (v:Venue) (s:Nat):List Int:=(if (s:Int) ∈ v.Kills then [-1] else [])++((List.range v.Poles.length).filter (poleB v s)).map (fun j:Nat=>(j:Int))
theorem getD_of {α:Type} {l:List α} {i:Nat} {s d : α} (h:l[i]?=some s):l.getD i d=s:=by rw[List.getD_eq_getElem?_getD,h];rfl
theorem kill_by_eq (k:Nat) (v:Venue) (s:Nat) (hs:s < v.Seats.length) (hk:3≤k) (h2:v.Kills.length < k) (h3:v.Poles.length < k) (hb:k≤4294967290):kill_by k v (s:Int)=some (killL v s):=by
 unfold kill_by killL
 rw[bindS (slices_Contains_int_eq k _ _ h2 (by omega))]
 have e1:(cond (decide ((s:Int) ∈ v.Kills)) (gd (decide (([(-1:Int)]).length≤4294967296)) (some [(-1:Int)])) (some []))=some (if (s:Int) ∈ v.Kills then [-1] else []):=by
  by_cases h:(s:Int) ∈ v.Kills
  ·rw[condD h,if_pos h,gdD (by simp)]
  ·rw[condN h,if_neg h]
 rw[bindS e1]
 obtain⟨t,t1,t2⟩:=some_get hs
 have h:=gather0 (f:=fun n a i=>kill_by_l0 k v (s:Int) n a i) (len:=v.Poles.length) (c:=1) (poleB v s) (fun j:Nat=>(j:Int))
  (fun n i w hi hw=>by
   obtain⟨p,e1,e2⟩:=some_get hi
   show kill_by_l0 k v (s:Int) (n+1) w (i:Int)=kill_by_l0 k v (s:Int) n _ _
   have hp:poleB v s i=closeB t (Seat.mk 0 p.X p.Y 0) p.R:=by unfold poleB poleS;rw[getD_of t1,getD_of e1]
   rw[kill_by_l0,condD (by omega),bindS e2,bindS t2,bindS (geom_Close_eq _ _ _ _ hk),← hp,wr_succ (by omega)]
   cases poleB v s i
   ·rw[condF rfl,if_neg (by simp)]
   ·rw[condT rfl,gdD (by simp only[List.length_singleton];omega),if_pos rfl])
  (fun n w=>by show kill_by_l0 k v (s:Int) (n+1) w _=_;rw[kill_by_l0,condN (by omega)])
  h3 (if (s:Int) ∈ v.Kills then [-1] else []) (by split <;> simp)
 have h:kill_by_l0 k v (s:Int) k _ 0=_:=h
 rw[bindS h]
theorem KillsP.lt {l:List Int} {m:Int} (h:KillsP l m):∀(d j:Nat) {a b:Int},l[j]?=some a→l[j+1+d]?=some b→a < b
 | 0,j,a,b,ha,hb=>by
  have:=(List.getElem?_eq_some_iff.1 hb).1
  exact(h (j+1) this b hb).2.2 (by omega) a ha
 | d+1,j,a,b,ha,hb=>by
  have hl:=(List.getElem?_eq_some_iff.1 hb).1
  obtain⟨c,e1,_⟩:=some_get (l:=l) (i:=j+1+d) (by omega)
  have h1:=h.lt d j ha e1
  have h2:=(h _ hl b hb).2.2 (by omega) c e1
  omega
theorem ref6_killedBy_l0_eq (k:Nat) (v:Venue) (s:Int) {m:Int} (hK:KillsP v.Kills m) (hb:v.Kills.length≤4294967290):∀(d n i:Nat) (w:List Int),i+d=v.Kills.length→d < n→w.length≤0 →
  ref6_killedBy_l0 k v s n w (i:Int)=some (if s ∈ v.Kills.drop i then [-1] else [])
 | d,0,i,w,_,h,_=>absurd h (by omega)
 | 0,n+1,i,w,hi,_,hw=>by
  obtain rfl:i=v.Kills.length:=by omega
  obtain rfl:w=[]:=List.length_eq_zero_iff.1 (by omega)
  rw[ref6_killedBy_l0,condN (by omega)]
  simp
 | d+1,n+1,i,w,hi,h,hw=>by
  obtain rfl:w=[]:=List.length_eq_zero_iff.1 (by omega)
  have hil:i < v.Kills.length:=by omega
  obtain⟨y,e1,e2⟩:=some_get hil
  have hd:v.Kills.drop i=y::v.Kills.drop (i+1):=by
   rw[List.drop_eq_getElem_cons hil]
   congr 1
   rw[List.getElem?_eq_getElem hil] at e1
   exact Option.some.inj e1
  rw[ref6_killedBy_l0,condD (by omega),bindS e2,wr_succ (by omega),hd]
  by_cases hy:y=s
  ·rw[condD hy,gdD (by simp),if_pos (by rw[hy];simp)]
   have:∀(d n j:Nat),j+d=v.Kills.length→i < j→d < n→ref6_killedBy_l0 k v s n ([]++[-1]) (j:Int)=some [-1]:=by
    intro d
    induction d with
    | zero =>
     intro n j hj hij hd
     obtain⟨n,rfl⟩:∃q,n=q+1:=⟨n-1,by omega⟩
     rw[ref6_killedBy_l0,condN (by omega)]
     rfl
    | succ d ih =>
     intro n j hj hij hd
     obtain⟨n,rfl⟩:∃q,n=q+1:=⟨n-1,by omega⟩
     obtain⟨z,f1,f2⟩:=some_get (l:=v.Kills) (i:=j) (by omega)
     have hlt:=hK.lt (j-(i+1)) i e1 (b:=z) (by rw[show i+1+(j-(i+1))=j by omega];exact f1)
     rw[ref6_killedBy_l0,condD (by omega),bindS f2,condN (by omega),wr_succ (by omega)]
     exact ih n (j+1) (by omega) (by omega) (by omega)
   exact this d n (i+1) (by omega) (by omega) (by omega)
  ·rw[condN hy,ref6_killedBy_l0_eq k v s hK hb d n (i+1) [] (by omega) (by omega) (by simp)]
   congr 1
   have hys:¬s=y:=fun h=>hy h.symm
   simp [hys]
theorem ref6_killedBy_eq (k:Nat) (v:Venue) (s:Nat) (hs:s < v.Seats.length) {m:Int} (hK:KillsP v.Kills m) (hP:PolesP v.Poles) (hk:3≤k) (h2:v.Kills.length < k) (h3:v.Poles.length < k) (hb:k≤4294967290):ref6_killedBy k v (s:Int)=some (killL v s):=by
 unfold ref6_killedBy killL
 have h0:ref6_killedBy_l0 k v (s:Int) k [] 0=_:=ref6_killedBy_l0_eq k v (s:Int) hK (by omega) v.Kills.length k 0 [] (by omega) h2 (by simp)
 rw[bindS h0,List.drop_zero]
 obtain⟨t,t1,t2⟩:=some_get hs
 have h:=gather0 (f:=fun n a i=>ref6_killedBy_l1 k v (s:Int) n a i) (len:=v.Poles.length) (c:=1) (poleB v s) (fun j:Nat=>(j:Int))
  (fun n i w hi hw=>by
   obtain⟨p,e1,e2⟩:=some_get hi
   show ref6_killedBy_l1 k v (s:Int) (n+1) w (i:Int)=ref6_killedBy_l1 k v (s:Int) n _ _
   have hp:poleB v s i=closeB t (Seat.mk 0 p.X p.Y 0) p.R:=by unfold poleB poleS;rw[getD_of t1,getD_of e1]
   have hR:=(hP i hi p e1).2.2
   rw[ref6_killedBy_l1,condD (by omega),bindS e2,bindS t2,bindS (ref6_Far_eq _ _ _),bindS (ref6_square_eq _ _ ⟨by omega,by omega⟩),wr_succ (by omega)]
   show cond (closeB t (Seat.mk 0 p.X p.Y 0) p.R) _ _=_
   rw[← hp]
   cases poleB v s i
   ·rw[condF rfl,if_neg (by simp)]
   ·rw[condT rfl,gdD (by simp only[List.length_singleton];omega),if_pos rfl])
  (fun n w=>by show ref6_killedBy_l1 k v (s:Int) (n+1) w _=_;rw[ref6_killedBy_l1,condN (by omega)])
  h3 (if (s:Int) ∈ v.Kills then [-1] else []) (by split <;> simp)
 have h:ref6_killedBy_l1 k v (s:Int) k _ 0=_:=h
 rw[bindS h]
def deadB (v:Venue) (s:Nat):Bool:=decide ((killL v s).length=0)
def usL (v:Venue):List Bool:=(List.range v.Seats.length).map (deadB v)
structure Small (k:Nat) (v:Venue):Prop where
 hs:v.Seats.length < k
 hk:v.Kills.length < k
 hp:v.Poles.length < k
 b:k≤4294967290
 b3:3≤k
theorem idx_set_ok {α:Type} {l:List α} {i:Nat} (h:i < l.length):∃y,idx l (i:Int)=some y:=⟨_,idx_nat h⟩
theorem kill_Usable_eq {k:Nat} {v:Venue} (hv:Small k v):kill_Usable k v=some (cond (mayB v) (usL v) []):=by
 have h1:=hv.hs
 have hb:=hv.b
 unfold kill_Usable
 rw[bindS (venue_May_eq k v hv.hs hv.hk hv.hp (by omega))]
 cases hm:mayB v
 ·rfl
 have hM:=mayB_iff.1 hm
 rw[cNT,gdD (by omega)]
 have h:=fill0 (f:=fun n a i=>kill_Usable_l0 k v n a i) (len:=v.Seats.length) (deadB v)
  (fun n i w hi hw=>by
   show kill_Usable_l0 k v (n+1) w (i:Int)=kill_Usable_l0 k v n _ _
   obtain⟨y,e⟩:=idx_set_ok (l:=w) (i:=i) (by omega)
   rw[kill_Usable_l0,condD (by rw[List.length_replicate];omega),bindS (kill_by_eq k v i hi hv.b3 hv.hk hv.hp hv.b),bindS e,wr_succ (by omega),Int.toNat_natCast]
   congr 2
   unfold deadB
   rw[decide_eq_decide]
   omega)
  (fun n w hw=>by show kill_Usable_l0 k v (n+1) w _=_;rw[kill_Usable_l0,condN (by rw[List.length_replicate];omega)])
  h1 (List.replicate (v.Seats.length:Int).toNat false) (by rw[List.length_replicate];omega)
 have h:kill_Usable_l0 k v k _ 0=_:=h
 rw[bindS h]
 rfl
theorem ref6_Usable_eq {k:Nat} {v:Venue} (hv:Small k v):ref6_Usable k v=some (cond (mayB v) (usL v) []):=by
 have h1:=hv.hs
 have hb:=hv.b
 unfold ref6_Usable
 rw[bindS (ref2_May_eq k v hv.hs hv.hk hv.hp (by omega))]
 cases hm:mayB v
 ·rfl
 have hM:=mayB_iff.1 hm
 rw[cNT,gdD (by omega)]
 have h:=fill0 (f:=fun n a i=>ref6_Usable_l0 k v n a i) (len:=v.Seats.length) (deadB v)
  (fun n i w hi hw=>by
   show ref6_Usable_l0 k v (n+1) w (i:Int)=ref6_Usable_l0 k v n _ _
   obtain⟨y,e⟩:=idx_set_ok (l:=w) (i:=i) (by omega)
   rw[ref6_Usable_l0,condD (by omega),bindS (ref6_killedBy_eq k v i hi hM.kills hM.poles hv.b3 hv.hk hv.hp hv.b),bindS e,wr_succ (by omega),Int.toNat_natCast]
   congr 2
   unfold deadB
   rw[decide_eq_decide]
   omega)
  (fun n w hw=>by show ref6_Usable_l0 k v (n+1) w _=_;rw[ref6_Usable_l0,condN (by omega)])
  h1 (List.replicate (v.Seats.length:Int).toNat false) (by rw[List.length_replicate];omega)
 have h:ref6_Usable_l0 k v k _ 0=_:=h
 rw[bindS h]
 rfl
theorem sameInts_refl (k:Nat) (l:List Int) (hl:l.length < k) (hb:l.length≤4294967290):ref6_SameInts k l l=some true:=by
 unfold ref6_SameInts
 rw[condNT rfl]
 have h:=scan_go (f:=fun n i=>ref6_SameInts_l0 k l l n i) (len:=l.length) (good:=fun _=>True)
  (fun n i hi _=>by
   show ref6_SameInts_l0 k l l (n+1) (i:Int)=_
   obtain⟨y,e1,e2⟩:=some_get hi
   rw[ref6_SameInts_l0,condD (by omega),bindS e2,bindS e2,condNT rfl,wr_succ (by omega)])
  (fun n=>by show ref6_SameInts_l0 k l l (n+1) _=_;rw[ref6_SameInts_l0,condN (by omega)]) l.length k 0 (by omega) hl (fun _ _ _=>trivial)
 have h:ref6_SameInts_l0 k l l k 0=_:=h
 rw[bindS h,elim_go]
end Go.Px

set_option linter.unusedVariables false
set_option linter.unusedSimpArgs false
namespace Go.Px
open Go Go.Sh
end Go.Px

set_option linter.unusedVariables false
set_option linter.unusedSimpArgs false
namespace Go.Px
open Go Go.Sh
end Go.Px

set_option linter.unusedVariables false
set_option linter.unusedSimpArgs false
namespace Go.Px
open Go Go.Sh
def freeB (v:Venue) (U:List Bool) (s:Int):Bool:=decide (0≤s∧s < v.Seats.length) && (U[s.toNat]?).getD false
def seatA (v:Venue) (s:Int):Seat:=v.Seats.getD s.toNat default
def nextB (v:Venue) (s:Int):Bool:=decide (0≤s∧s+1 < v.Seats.length) && (decide ((seatA v (s+1)).Row=(seatA v s).Row) && decide (wr ((seatA v (s+1)).X-(seatA v s).X)≤v.Gap))
theorem seat_idx {v:Venue} {s:Int} (h0:0≤s) (h:s < v.Seats.length):idx v.Seats s=some (seatA v s):=by
 obtain⟨j,rfl⟩:=Int.eq_ofNat_of_zero_le h0
 obtain⟨t,e1,e2⟩:=some_get (l:=v.Seats) (i:=j) (by omega)
 rw[e2]
 unfold seatA
 rw[Int.toNat_natCast,getD_of e1]
theorem run_free_eq (k:Nat) (v:Venue) (U:List Bool) (s:Int):run_free k v U s=some (freeB v U s):=by
 unfold run_free freeB
 by_cases h1:s < 0
 ·rw[condD h1,decide_eq_false (by omega)];rfl
 by_cases h2:(v.Seats.length:Int)≤s
 ·rw[condN h1,condD h2,decide_eq_false (by omega)];rfl
 rw[condN h1,condN h2,decide_eq_true (p:=0≤s∧s < (v.Seats.length:Int)) (by omega),Bool.true_and]
 by_cases h3:(U.length:Int)≤s
 ·rw[condD h3,List.getElem?_eq_none (by omega)];rfl
 ·have h:=List.getElem?_eq_getElem (l:=U) (i:=s.toNat) (by omega)
  rw[condN h3,bindS (idx_get (by omega) h),h];rfl
theorem run_next_eq (k:Nat) (v:Venue) (s:Int) (hl:v.Seats.length≤4294967290):run_next k v s=some (nextB v s):=by
 unfold run_next nextB
 rw[wr_id (x:=(v.Seats.length:Int)-1) (by omega) (by omega)]
 by_cases h1:0≤s
 ·by_cases h2:s < (v.Seats.length:Int)-1
  ·rw[condD h1,condD h2,wr_id (x:=s+1) (by omega) (by omega),bindS (seat_idx (by omega) (by omega)),bindS (seat_idx (by omega) (by omega)),decide_eq_true (p:=0≤s∧s+1 < (v.Seats.length:Int)) (by omega),Bool.true_and]
   by_cases h3:(seatA v (s+1)).Row=(seatA v s).Row
   ·rw[condD h3,bindS (seat_idx (by omega) (by omega)),bindS (seat_idx (by omega) (by omega)),decide_eq_true h3,Bool.true_and]
   ·rw[condN h3,decide_eq_false h3,Bool.false_and]
  ·rw[condD h1,condN h2,decide_eq_false (by omega),Bool.false_and]
 ·rw[condN h1,decide_eq_false (by omega),Bool.false_and]
theorem ref6_seat_eq (k:Nat) (v:Venue) (s:Int):ref6_seat k v s=some (decide (0≤s∧s < v.Seats.length)):=by
 unfold ref6_seat
 exact condAnd rfl
theorem ref6_next_eq (k:Nat) (v:Venue) (s:Int) (h0 : -1≤s) (h1:s < 4611686018427387904) (hl:v.Seats.length≤4294967290):ref6_next k v s=some (nextB v s):=by
 unfold ref6_next nextB
 rw[bindS (ref6_seat_eq _ _ _),wr_id (x:=s+1) (by omega) (by omega),bindS (ref6_seat_eq _ _ _)]
 by_cases h2:0≤s∧s < v.Seats.length
 ·rw[condD h2]
  by_cases h3:0≤s+1∧s+1 < v.Seats.length
  ·rw[condD h3,bindS (seat_idx (by omega) (by omega)),bindS (seat_idx (by omega) (by omega)),decide_eq_true (p:=0≤s∧s+1 < (v.Seats.length:Int)) (by omega),Bool.true_and]
   by_cases h4:(seatA v (s+1)).Row=(seatA v s).Row
   ·rw[condD h4.symm,bindS (seat_idx (by omega) (by omega)),bindS (seat_idx (by omega) (by omega)),decide_eq_true h4,Bool.true_and]
   ·rw[condN (fun h=>h4 h.symm),decide_eq_false h4,Bool.false_and]
  ·rw[condN h3,decide_eq_false (by omega),Bool.false_and]
 ·rw[condN h2,decide_eq_false (by omega),Bool.false_and]
def onB (v:Venue) (U:List Bool) (s:Int) (i:Nat):Bool:=freeB v U (s+i) && (decide (i=0) || nextB v (s+i-1))
structure Pre (p:Nat→Bool) (m r:Nat):Prop where
 le:r≤m
 all:∀j,j < r→p j=true
 stop:r < m→p r=false
theorem Pre.uniq {p:Nat→Bool} {m r r':Nat} (h:Pre p m r) (h':Pre p m r'):r=r':=by
 rcases Nat.lt_trichotomy r r' with hl | hl | hl
 ·have h1:=h'.all r hl
  have h2:=h.stop (by have:=h'.le;omega)
  rw[h1] at h2
  cases h2
 ·exact hl
 ·have h1:=h.all r' hl
  have h2:=h'.stop (by have:=h.le;omega)
  rw[h1] at h2
  cases h2
theorem Pre.cut {p:Nat→Bool} {m n r r':Nat} (h:Pre p m r) (h':Pre p n r') (hm:m≤n):r=min m r':=by
 refine h.uniq ⟨by omega,fun j hj=>h'.all j (by omega),fun hl=>?_⟩
 have:min m r'=r':=by omega
 rw[this] at hl ⊢
 exact h'.stop (by omega)
theorem free_low {v:Venue} {U:List Bool} {s:Int} (h:freeB v U s=true):0≤s∧s < v.Seats.length:=by
 unfold freeB at h
 rw[Bool.and_eq_true,decide_eq_true_iff] at h
 exact h.1
theorem next_low {v:Venue} {s:Int} (h:nextB v s=true):0≤s∧s+1 < v.Seats.length:=by
 unfold nextB at h
 rw[Bool.and_eq_true,decide_eq_true_iff] at h
 exact h.1
theorem onB_zero (v:Venue) (U:List Bool) (s:Int):onB v U s 0=freeB v U s:=by
 unfold onB
 simp
theorem run_long_l0_eq (k:Nat) (v:Venue) (U:List Bool) (s:Int) (hs:okI s) (m:Nat) (hl:v.Seats.length≤4294967290) (hm:m≤4294967290):∀(d n i:Nat),i+d=m→d < n→(∀j,j < i→onB v U s j=true)→∃r:Nat,run_long_l0 k v U s (m:Int) n (i:Int)=some (r:Int)∧Pre (onB v U s) m r
 | d,0,i,_,h,_=>absurd h (by omega)
 | 0,n+1,i,hi,_,ha=>by
  rw[run_long_l0,condN (by omega)]
  exact⟨i,rfl,by omega,ha,fun h=>by omega⟩
 | d+1,n+1,i,hi,h,ha=>by
  obtain⟨s0,s1⟩:=hs
  have hw:i=0∨(0 < i∧0≤s∧s < v.Seats.length):=by
   rcases Nat.eq_zero_or_pos i with e | e
   ·exact .inl e
   ·have:=ha 0 e
    rw[onB_zero] at this
    exact .inr ⟨e,free_low this⟩
  have e1:wr (s+(i:Int))=s+i:=by
   rcases hw with rfl | h
   ·rw[show s+((0:Nat):Int)=s by omega]
    exact wr_id s0 s1
   ·exact wr_id (by omega) (by omega)
  rw[run_long_l0,condD (by omega),e1,bindS (run_free_eq _ _ _ _),wr_succ (by omega)]
  have hstop:onB v U s i=false→∃r:Nat,(some (i:Int))=some (r:Int)∧Pre (onB v U s) m r:=fun h=>⟨i,rfl,by omega,ha,fun _=>h⟩
  have hgo:onB v U s i=true→∃r:Nat,run_long_l0 k v U s (m:Int) n ((i+1:Nat):Int)=some (r:Int)∧Pre (onB v U s) m r:=fun h =>
   run_long_l0_eq k v U s ⟨s0,s1⟩ m hl hm d n (i+1) (by omega) (by omega) (fun j hj=>by
    rcases Nat.lt_or_ge j i with hh | hh
    ·exact ha j hh
    ·rw[show j=i by omega];exact h)
  cases hf:freeB v U (s+i)
  ·rw[condF rfl]
   exact hstop (by unfold onB;rw[hf,Bool.false_and])
  ·rw[condT rfl]
   by_cases h0:i=0
   ·rw[condD (by omega)]
    exact hgo (by unfold onB;rw[hf,decide_eq_true h0];rfl)
   ·rw[condN (by omega),wr_id (x:=s+(i:Int)-1) (by omega) (by omega),bindS (run_next_eq _ _ _ hl)]
    cases hn:nextB v (s+i-1)
    ·rw[condF rfl]
     exact hstop (by unfold onB;rw[hf,hn,decide_eq_false h0];rfl)
    ·rw[condT rfl]
     exact hgo (by unfold onB;rw[hf,hn,decide_eq_false h0];rfl)
theorem run_long_eq (k:Nat) (v:Venue) (U:List Bool) (s:Int) (hs:okI s) (m:Nat) (hl:v.Seats.length≤4294967290) (hm:m < k) (hk:k≤4294967290):∃r:Nat,run_long k v U s (m:Int)=some (r:Int)∧Pre (onB v U s) m r:=by
 unfold run_long
 obtain⟨r,e,h⟩:=run_long_l0_eq k v U s hs m hl (by omega) m k 0 (by omega) hm (fun j hj=>by omega)
 have e:run_long_l0 k v U s (m:Int) k 0=_:=e
 exact⟨r,by rw[bindS e],h⟩
theorem ref6_is_eq (k:Nat) (U:List Bool) (s:Int) (h0:0≤s):ref6_is k U s=some ((U[s.toNat]?).getD false):=by
 unfold ref6_is
 rw[condD h0]
 by_cases h3:s < (U.length:Int)
 ·have h:=List.getElem?_eq_getElem (l:=U) (i:=s.toNat) (by omega)
  rw[condD h3,bindS (idx_get (by omega) h),h];rfl
 ·rw[condN h3,List.getElem?_eq_none (by omega)];rfl
theorem ref6_long_l0_eq (k:Nat) (v:Venue) (U:List Bool) (s:Int) (hs:0≤s∧s < v.Seats.length) (hl:v.Seats.length≤4294967290):∀(d n i:Nat),i+d=v.Seats.length→d < n→0 < i→(∀j,j < i→onB v U s j=true)→∃r:Nat,ref6_long_l0 k v U s n (i:Int)=some (r:Int)∧Pre (onB v U s) v.Seats.length r
 | d,0,i,_,h,_,_=>absurd h (by omega)
 | d,n+1,i,hi,h,h0,ha=>by
  rw[ref6_long_l0,wr_id (x:=s+(i:Int)) (by omega) (by omega),wr_id (x:=s+(i:Int)-1) (by omega) (by omega),bindS (ref6_next_eq _ _ _ (by omega) (by omega) hl),bindS (ref6_is_eq _ _ _ (by omega)),wr_succ (by omega)]
  have hstop:(i < v.Seats.length→onB v U s i=false)→∃r:Nat,(some (i:Int))=some (r:Int)∧Pre (onB v U s) v.Seats.length r:=fun h=>⟨i,rfl,by omega,ha,h⟩
  cases hn:nextB v (s+i-1)
  ·rw[condF rfl]
   exact hstop fun _=>by unfold onB;rw[hn,decide_eq_false (by omega),Bool.or_false,Bool.and_false]
  ·have hlow:=next_low hn
   obtain⟨d,rfl⟩:∃q,d=q+1:=⟨d-1,by omega⟩
   rw[condT rfl]
   cases hu:(U[(s+(i:Int)).toNat]?).getD false
   ·rw[condF rfl]
    exact hstop fun _=>by unfold onB freeB;rw[hu,Bool.and_false,Bool.false_and]
   ·rw[condT rfl]
    have hok:onB v U s i=true:=by unfold onB freeB;rw[hn,hu,decide_eq_true (by omega)];simp
    exact ref6_long_l0_eq k v U s hs hl d n (i+1) (by omega) (by omega) (by omega) (fun j hj=>by
     rcases Nat.lt_or_ge j i with hh | hh
     ·exact ha j hh
     ·rw[show j=i by omega];exact hok)
theorem ref6_long_eq (k:Nat) (v:Venue) (U:List Bool) (s:Int) (hl:v.Seats.length < k) (hk:k≤4294967290):∃r:Nat,ref6_long k v U s=some (r:Int)∧Pre (onB v U s) v.Seats.length r:=by
 unfold ref6_long
 rw[bindS (ref6_seat_eq _ _ _)]
 have hzero:freeB v U s=false→∃r:Nat,(some (0:Int))=some (r:Int)∧Pre (onB v U s) v.Seats.length r:=fun h=>⟨0,rfl,by omega,fun j hj=>by omega,fun _=>by rw[onB_zero,h]⟩
 by_cases h1:0≤s∧s < v.Seats.length
 ·rw[condNT h1,bindS (ref6_is_eq _ _ _ h1.1),bindS rfl]
  cases hu:(U[s.toNat]?).getD false
  ·rw[cNF]
   exact hzero (by unfold freeB;rw[hu,Bool.and_false])
  ·rw[cNT]
   have hf:freeB v U s=true:=by unfold freeB;rw[hu,decide_eq_true h1];rfl
   obtain⟨r,e,h⟩:=ref6_long_l0_eq k v U s h1 (by omega) (v.Seats.length-1) k 1 (by omega) (by omega) (by omega) (fun j hj=>by
    obtain rfl:j=0:=by omega
    rw[onB_zero,hf])
   have e:ref6_long_l0 k v U s k 1=_:=e
   exact⟨r,by rw[bindS e],h⟩
 ·rw[condNF h1,bindS rfl,condT rfl]
  exact hzero (by unfold freeB;rw[decide_eq_false h1,Bool.false_and])
def rangeL (s:Int) (m:Nat):List Int:=(List.range m).map (fun j:Nat=>s+(j:Int))
theorem rangeL_len (s:Int) (m:Nat):(rangeL s m).length=m:=by unfold rangeL;rw[List.length_map,List.length_range]
theorem rangeL_get {s:Int} {m i:Nat} (h:i < m):(rangeL s m)[i]?=some (s+i):=by unfold rangeL;simp [h]
theorem run_piece_eq (k:Nat) (s:Int) (m:Nat) (hm:m < k) (hs : -4294967290≤s∧s≤4294967290) (hk:k≤4294967290):run_piece k s (m:Int)=some (rangeL s m):=by
 unfold run_piece
 have h:=gather0 (f:=fun n a i=>run_piece_l0 k s (m:Int) n a i) (len:=m) (c:=0) (fun _=>true) (fun j:Nat=>s+(j:Int))
  (fun n i w hi hw=>by
   show run_piece_l0 k s (m:Int) (n+1) w (i:Int)=run_piece_l0 k s (m:Int) n _ _
   rw[run_piece_l0,condD (by omega),gdD (by simp only[List.length_singleton];omega),wr_succ (by omega),wr_id (x:=s+(i:Int)) (by omega) (by omega)]
   rfl)
  (fun n w=>by show run_piece_l0 k s (m:Int) (n+1) w _=_;rw[run_piece_l0,condN (by omega)])
  hm [] (by simp)
 have h:run_piece_l0 k s (m:Int) k [] 0=_:=h
 rw[bindS h,List.filter_eq_self.2 (fun _ _=>rfl)]
 rfl
noncomputable def runN (v:Venue) (U:List Bool) (s:Int):Nat:=(ref6_long 4294967290 v U s).getD 0 |>.toNat
theorem runN_pre {v:Venue} {U:List Bool} {s:Int} (hl:v.Seats.length < 4294967290):Pre (onB v U s) v.Seats.length (runN v U s):=by
 obtain⟨r,e,h⟩:=ref6_long_eq 4294967290 v U s hl (by omega)
 unfold runN
 rw[e]
 exact h
theorem ref6_long_N {k:Nat} {v:Venue} {U:List Bool} {s:Int} (hl:v.Seats.length < k) (hk:k≤4294967290):ref6_long k v U s=some (runN v U s:Int):=by
 obtain⟨r,e,h⟩:=ref6_long_eq k v U s hl hk
 rw[e,h.uniq (runN_pre (by omega))]
theorem run_long_min {k:Nat} {v:Venue} {U:List Bool} {s:Int} (hs:okI s) (hl:v.Seats.length < k) (hk:k≤4294967290) {m:Nat} (hm:m≤v.Seats.length):run_long k v U s (m:Int)=some ((min m (runN v U s):Nat):Int):=by
 obtain⟨r,e,h⟩:=run_long_eq k v U s hs m (by omega) (by omega) hk
 rw[e,h.cut (runN_pre (by omega)) hm]
theorem runN_pos {v:Venue} {U:List Bool} {s:Int} (hl:v.Seats.length < 4294967290) (h:0 < runN v U s):0≤s∧s+runN v U s≤v.Seats.length:=by
 have hp:=runN_pre (v:=v) (U:=U) (s:=s) hl
 have h1:=hp.all (runN v U s-1) (by omega)
 have h0:=hp.all 0 h
 rw[onB_zero] at h0
 have h0:=free_low h0
 unfold onB at h1
 rw[Bool.and_eq_true] at h1
 have h1:=free_low h1.1
 omega
noncomputable def takeV (v:Venue) (U:List Bool) (s m:Int):List Int×Bool:=if 1≤m∧m≤runN v U s then (rangeL s m.toNat,true) else ([],false)
theorem run_Take_eq {k:Nat} {v:Venue} {U:List Bool} {s:Int} (m:Int) (hs:okI s) (hl:v.Seats.length < k) (hk:k≤4294967290):run_Take k v U s m=some (takeV v U s m):=by
 have hp:=runN_pre (v:=v) (U:=U) (s:=s) (by omega)
 have hle:=hp.le
 unfold run_Take takeV
 by_cases h1:m < 1
 ·rw[condD h1,if_neg (by omega)]
 by_cases h2:(v.Seats.length:Int) < m
 ·rw[condN h1,condD h2,if_neg (by omega)]
 obtain⟨q,rfl⟩:=Int.eq_ofNat_of_zero_le (by omega:0≤m)
 rw[condN h1,condN h2,bindS (run_long_min hs hl hk (by omega))]
 by_cases h3:((min q (runN v U s):Nat):Int) < (q:Int)
 ·rw[condD h3,if_neg (by omega)]
 ·have:=runN_pos (v:=v) (U:=U) (s:=s) (by omega) (by omega)
  rw[condN h3,bindS (run_piece_eq k s q (by omega) (by omega) hk),if_pos (by omega),Int.toNat_natCast]
end Go.Px

set_option linter.unusedVariables false
set_option linter.unusedSimpArgs false
namespace Go.Px
open Go Go.Sh
end Go.Px

set_option linter.unusedVariables false
set_option linter.unusedSimpArgs false
namespace Go.Px
open Go Go.Sh
abbrev MayP (p:Party):Prop:=1≤p.Size∧p.Size≤8∧0≤p.Wheels∧p.Wheels≤2∧2 * p.Wheels≤p.Size
theorem party_May_eq (k:Nat) (p:Party):party_May k p=some (decide (MayP p)):=by
 unfold party_May
 by_cases h1:p.Size < 1
 ·rw[condD h1,decide_eq_false (by omega)]
 by_cases h2:8 < p.Size
 ·rw[condN h1,condD h2,decide_eq_false (by omega)]
 by_cases h3:p.Wheels < 0
 ·rw[condN h1,condN h2,condD h3,decide_eq_false (by omega)]
 by_cases h4:p.Wheels≤2
 ·rw[condN h1,condN h2,condN h3,condD h4,wr_id (by omega) (by omega)]
  congr 1
  rw[decide_eq_decide]
  omega
 ·rw[condN h1,condN h2,condN h3,condN h4,decide_eq_false (by omega)]
theorem ref6_MayParty_eq (k:Nat) (p:Party):ref6_MayParty k p=some (decide (MayP p)):=by
 unfold ref6_MayParty
 by_cases h1:1≤p.Size
 ·by_cases h2:p.Size≤8
  ·by_cases h3:0≤p.Wheels
   ·by_cases h4:p.Wheels≤2
    ·rw[condD h1,condD h2,condD h3,condD h4,wr_id (by omega) (by omega)]
     congr 1
     rw[decide_eq_decide]
     omega
    ·rw[condD h1,condD h2,condD h3,condN h4,decide_eq_false (by omega)]
   ·rw[condD h1,condD h2,condN h3,decide_eq_false (by omega)]
  ·rw[condD h1,condN h2,decide_eq_false (by omega)]
 ·rw[condN h1,decide_eq_false (by omega)]
def kd (v:Venue) (s:Int) (m:Nat) (j:Int):Int:=if 0≤j∧j < m then (seatA v (s+j)).Kind else 0
def kF (v:Venue) (s:Int) (m:Nat):Nat→Nat→Int→Int→Ex (Int×Int) Bool
 | 0,_,w,c => .go (w,c)
 | d+1,j,w,c=>if kd v s m j=1 then (if ¬kd v s m ((j:Int)-1)=2∧¬kd v s m ((j:Int)+1)=2 then .rt false else kF v s m d (j+1) (w+1) c) else if kd v s m j=2 then kF v s m d (j+1) w (c+1) else kF v s m d (j+1) w c
def kindsB (v:Venue) (s:Int) (m:Nat) (want:Int):Bool:=match kF v s m m 0 0 0 with
 | .go (w,c)=>decide (w=want∧(want=0→c≤0))
 | .rt b=>b
theorem kinds_1_eq (k:Nat) (h:PlaceHall) (s:Int) (m:Nat) (hs:0≤s∧s+m≤h.V.Seats.length) (j:Int):place_Hall_kinds_1 k j (rangeL s m) h=some (kd h.V s m j):=by
 unfold place_Hall_kinds_1 kd
 by_cases h1:j < 0
 ·rw[condD h1,if_neg (by omega)]
 by_cases h2:((rangeL s m).length:Int)≤j
 ·rw[condN h1,condD h2,if_neg (by rw[rangeL_len] at h2;omega)]
 rw[rangeL_len] at h2
 obtain⟨q,rfl⟩:=Int.eq_ofNat_of_zero_le (by omega:0≤j)
 rw[condN h1,condN (by rw[rangeL_len];exact h2),bindS (idx_get (by omega) (by rw[Int.toNat_natCast];exact rangeL_get (by omega))),bindS (seat_idx (by omega) (by omega)),if_pos (by omega)]
theorem place_kinds_l0_eq (k:Nat) (h:PlaceHall) (s:Int) (m:Nat) (hs:0≤s∧s+m≤h.V.Seats.length) (hm:m≤1000):∀(d n j:Nat) (w c:Int),j+d=m→d < n→0≤w→w≤j→0≤c→c≤j →
  place_Hall_kinds_l0 k h (rangeL s m) n w c (j:Int)=some (kF h.V s m d j w c)
 | d,0,j,w,c,_,hd,_,_,_,_=>absurd hd (by omega)
 | 0,n+1,j,w,c,hj,_,_,_,_,_=>by
  rw[place_Hall_kinds_l0,condN (by rw[rangeL_len];omega),kF]
 | d+1,n+1,j,w,c,hj,hd,w0,w1,c0,c1=>by
  rw[place_Hall_kinds_l0,condD (by rw[rangeL_len];omega),bindS (kinds_1_eq k h s m hs _),wr_succ (by omega),kF,wr_id (x:=w+1) (by omega) (by omega),wr_id (x:=c+1) (by omega) (by omega)]
  by_cases h1:kd h.V s m j=1
  ·rw[condD h1,if_pos h1,wr_id (x:=(j:Int)-1) (by omega) (by omega),bindS (kinds_1_eq k h s m hs _)]
   by_cases h2:kd h.V s m ((j:Int)-1)=2
   ·rw[condNT h2,if_neg (fun h=>h.1 h2)]
    exact place_kinds_l0_eq k h s m hs hm d n (j+1) (w+1) c (by omega) (by omega) (by omega) (by omega) (by omega) (by omega)
   ·rw[condNF h2,show((j+1:Nat):Int)=(j:Int)+1 by omega,bindS (kinds_1_eq k h s m hs _)]
    by_cases h3:kd h.V s m ((j:Int)+1)=2
    ·rw[condNT h3,if_neg (fun h=>h.2 h3)]
     exact place_kinds_l0_eq k h s m hs hm d n (j+1) (w+1) c (by omega) (by omega) (by omega) (by omega) (by omega) (by omega)
    ·rw[condNF h3,if_pos ⟨h2,h3⟩]
  ·rw[condN h1,if_neg h1]
   by_cases h2:kd h.V s m j=2
   ·rw[condD h2,if_pos h2]
    exact place_kinds_l0_eq k h s m hs hm d n (j+1) w (c+1) (by omega) (by omega) (by omega) (by omega) (by omega) (by omega)
   ·rw[condN h2,if_neg h2]
    exact place_kinds_l0_eq k h s m hs hm d n (j+1) w c (by omega) (by omega) (by omega) (by omega) (by omega) (by omega)
theorem kF_pos {v:Venue} {s:Int} {m:Nat} : ∀ {d j:Nat} {w c:Int} {o:Int×Int},kF v s m d j w c = .go o→0≤w→0≤c→0≤o.1∧0≤o.2
 | 0,j,w,c,o,h,hw,hc=>by rw[kF] at h;cases h;exact⟨hw,hc⟩
 | d+1,j,w,c,o,h,hw,hc=>by
  rw[kF] at h
  split at h
  ·split at h
   ·cases h
   ·exact kF_pos h (by omega) hc
  ·split at h
   ·exact kF_pos h hw (by omega)
   ·exact kF_pos h hw hc
theorem place_Hall_kinds_eq (k:Nat) (h:PlaceHall) (s:Int) (m:Nat) (want:Int) (hs:0≤s∧s+m≤h.V.Seats.length) (hm:m≤1000) (hk:m < k):place_Hall_kinds k h (rangeL s m) want=some (kindsB h.V s m want):=by
 unfold place_Hall_kinds kindsB
 have e:place_Hall_kinds_l0 k h (rangeL s m) k 0 0 0=_:=place_kinds_l0_eq k h s m hs hm m k 0 0 0 (by omega) hk (by omega) (by omega) (by omega) (by omega)
 rw[bindS e]
 cases hr:kF h.V s m m 0 0 0 with
 | rt b=>rw[elim_rt]
 | go o =>
  obtain⟨w,c⟩:=o
  rw[elim_go]
  simp only
  by_cases h0:want=0
  ·rw[condD h0]
   by_cases h1:0 < c
   ·rw[condD h1,decide_eq_false (fun h=>by have:=h.2 h0;omega)]
   ·rw[condN h1]
    by_cases h2:w=want
    ·rw[condNT h2,decide_eq_true ⟨h2,fun _=>by omega⟩]
    ·rw[condNF h2,decide_eq_false (fun h=>h2 h.1)]
  ·rw[condN h0]
   by_cases h2:w=want
   ·rw[condNT h2,decide_eq_true ⟨h2,fun h=>absurd h h0⟩]
   ·rw[condNF h2,decide_eq_false (fun h=>h2 h.1)]
noncomputable def placeB (v:Venue) (U:List Bool) (p:Party) (s:Int):Bool:=decide (MayP p∧p.Size≤runN v U s) && kindsB v s p.Size.toNat p.Wheels
theorem place_Hall_Seats_eq {k:Nat} {h:PlaceHall} (p:Party) {s:Int} (hs:okI s) (hN:h.V.Seats.length < k) (hb:k≤4294967290) (hk:1000 < k):place_Hall_Seats k h p s=some (if placeB h.V h.usable p s=true then (rangeL s p.Size.toNat,true) else ([],false)):=by
 unfold place_Hall_Seats placeB
 rw[bindS (party_May_eq _ _),bindS (run_Take_eq _ hs hN hb)]
 by_cases hm:MayP p
 ·rw[condNT hm]
  unfold takeV
  by_cases hr:p.Size≤runN h.V h.usable s
  ·have hpos:=runN_pos (v:=h.V) (U:=h.usable) (s:=s) (by omega) (by omega)
   rw[if_pos ⟨hm.1,hr⟩]
   simp only
   rw[cNT,bindS (place_Hall_kinds_eq k h s p.Size.toNat p.Wheels (by omega) (by omega) (by omega)),decide_eq_true ⟨hm,hr⟩,Bool.true_and]
   cases kindsB h.V s p.Size.toNat p.Wheels <;> rfl
  ·rw[if_neg (fun h=>hr h.2),decide_eq_false (fun h=>hr h.2)]
   rfl
 ·rw[condNF hm,decide_eq_false (fun h=>hm h.1)]
  rfl
/- the reference -/
theorem ref6_kind_eq (k:Nat) (h:Ref6Hall) (s:Int) (m:Nat) (hs:0≤s∧s+m≤h.V.Seats.length) (hm:1≤m) (j:Int):∃x,ref6_Hall_kind k h (s+j) s (s+m-1)=some x∧(x=2 ↔ kd h.V s m j=2):=by
 unfold ref6_Hall_kind kd
 by_cases h1:s+j < s
 ·rw[condD h1,if_neg (by omega)]
  exact⟨_,rfl,by omega⟩
 by_cases h2:s+m-1 < s+j
 ·rw[condN h1,condD h2,if_neg (by omega)]
  exact⟨_,rfl,by omega⟩
 rw[condN h1,condN h2,bindS (seat_idx (by omega) (by omega)),if_pos (by omega)]
 exact⟨_,rfl,Iff.rfl⟩
theorem ref6_Hall_May_l0_eq (k:Nat) (h:Ref6Hall) (p:Party) (s:Int) (m:Nat) (hp:p.Size=m) (hs:0≤s∧s+m≤h.V.Seats.length) (hN:h.V.Seats.length≤4294967290) (hm:1≤m∧m≤1000):∀(d n j:Nat) (w c:Int),j+d=m→d < n→0≤w→w≤j→0≤c→c≤j →
  ref6_Hall_May_l0 k h p s n w c (s+(j:Int))=some (kF h.V s m d j w c)
 | d,0,j,w,c,_,hd,_,_,_,_=>absurd hd (by omega)
 | 0,n+1,j,w,c,hj,_,_,_,_,_=>by
  rw[ref6_Hall_May_l0,hp,wr_id (x:=s+(m:Int)) (by omega) (by omega),wr_id (x:=s+(m:Int)-1) (by omega) (by omega),condN (by omega),kF]
 | d+1,n+1,j,w,c,hj,hd,w0,w1,c0,c1=>by
  have hrec:∀w c:Int,0≤w→w≤j+1→0≤c→c≤j+1→ref6_Hall_May_l0 k h p s n w c (s+((j+1:Nat):Int))=some (kF h.V s m d (j+1) w c):=fun w c a1 a2 a3 a4 =>
   ref6_Hall_May_l0_eq k h p s m hp hs hN hm d n (j+1) w c (by omega) (by omega) a1 (by omega) a3 (by omega)
  have hkd:kd h.V s m j=(seatA h.V (s+j)).Kind:=by unfold kd;rw[if_pos (by omega)]
  obtain⟨x,e1,f1⟩:=ref6_kind_eq k h s m hs hm.1 ((j:Int)-1)
  obtain⟨y,e2,f2⟩:=ref6_kind_eq k h s m hs hm.1 ((j:Int)+1)
  rw[ref6_Hall_May_l0,hp,wr_id (x:=s+(m:Int)) (by omega) (by omega),wr_id (x:=s+(m:Int)-1) (by omega) (by omega),condD (by omega),bindS (seat_idx (by omega) (by omega)),← hkd,wr_id (x:=s+(j:Int)+1) (by omega) (by omega),kF,wr_id (x:=w+1) (by omega) (by omega),wr_id (x:=c+1) (by omega) (by omega),wr_id (x:=s+(j:Int)-1) (by omega) (by omega),
   show s+(j:Int)-1=s+((j:Int)-1) by omega,show s+(j:Int)+1=s+((j:Int)+1) by omega,bindS e1,bindS e2]
  rw[show s+((j:Int)+1)=s+((j+1:Nat):Int) by omega]
  by_cases h1:kd h.V s m j=1
  ·rw[condD h1,if_pos h1]
   by_cases h2:x=2
   ·rw[condNT h2,if_neg (fun h=>h.1 (f1.1 h2))]
    exact hrec _ _ (by omega) (by omega) (by omega) (by omega)
   ·rw[condNF h2]
    by_cases h3:y=2
    ·rw[condNT h3,if_neg (fun h=>h.2 (f2.1 h3))]
     exact hrec _ _ (by omega) (by omega) (by omega) (by omega)
    ·rw[condNF h3,if_pos ⟨fun h=>h2 (f1.2 h),fun h=>h3 (f2.2 h)⟩]
  ·rw[condN h1,if_neg h1]
   by_cases h2:kd h.V s m j=2
   ·rw[condD h2,if_pos h2]
    exact hrec _ _ (by omega) (by omega) (by omega) (by omega)
   ·rw[condN h2,if_neg h2]
    exact hrec _ _ (by omega) (by omega) (by omega) (by omega)
theorem ref6_Hall_May_eq {k:Nat} {h:Ref6Hall} (p:Party) {s:Int} (hN:h.V.Seats.length < k) (hb:k≤4294967290) (hk:1000 < k):ref6_Hall_May k h p s=some (placeB h.V h.U p s):=by
 unfold ref6_Hall_May placeB
 rw[bindS (ref6_MayParty_eq _ _),bindS (ref6_long_N hN hb)]
 by_cases hm:MayP p
 ·rw[condNT hm,bindS rfl]
  by_cases hr:p.Size≤runN h.V h.U s
  ·have hpos:=runN_pos (v:=h.V) (U:=h.U) (s:=s) (by omega) (by omega)
   obtain⟨m,hpm⟩:=Int.eq_ofNat_of_zero_le (by omega:0≤p.Size)
   have e:=ref6_Hall_May_l0_eq k h p s m hpm (by omega) (by omega) (by omega) m k 0 0 0 (by omega) (by omega) (by omega) (by omega) (by omega) (by omega)
   rw[show s+((0:Nat):Int)=s by omega] at e
   rw[condN (by omega),bindS e,decide_eq_true ⟨hm,hr⟩,Bool.true_and,hpm,Int.toNat_natCast]
   unfold kindsB
   cases hf:kF h.V s m m 0 0 0 with
   | rt b=>rw[elim_rt]
   | go o =>
    obtain⟨w,c⟩:=o
    have hpos:=kF_pos hf (by omega) (by omega)
    simp only at hpos
    rw[elim_go]
    simp only
    by_cases h1:w=p.Wheels
    ·rw[condD h1]
     by_cases h2:0 < w
     ·rw[condD h2,decide_eq_true ⟨h1,fun h=>by omega⟩]
     ·rw[condN h2]
      congr 1
      rw[decide_eq_decide]
      constructor
      ·intro h;exact⟨h1,fun _=>by omega⟩
      ·intro h;have:=h.2 (by omega);omega
    ·rw[condN h1,decide_eq_false (fun h=>h1 h.1)]
  ·rw[condD (by omega),decide_eq_false (fun h=>hr h.2),Bool.false_and]
 ·rw[condNF hm,bindS rfl,condT rfl,decide_eq_false (fun h=>hm h.1),Bool.false_and]
noncomputable def allL (v:Venue) (U:List Bool) (p:Party):List Int:=((List.range v.Seats.length).filter (fun s:Nat=>placeB v U p (s:Int))).map (fun j:Nat=>(j:Int))
theorem place_Hall_All_eq {k:Nat} {h:PlaceHall} (p:Party) (hN:h.V.Seats.length < k) (hb:k≤4294967290) (hk:1000 < k):place_Hall_All k h p=some (allL h.V h.usable p):=by
 unfold place_Hall_All
 have e:=gather0 (f:=fun n a i=>place_Hall_All_l0 k h p n a i) (len:=h.V.Seats.length) (c:=0) (fun s:Nat=>placeB h.V h.usable p (s:Int)) (fun j:Nat=>(j:Int))
  (fun n i w hi hw=>by
   show place_Hall_All_l0 k h p (n+1) w (i:Int)=place_Hall_All_l0 k h p n _ _
   rw[place_Hall_All_l0,condD (by omega),bindS (place_Hall_Seats_eq p ⟨by omega,by omega⟩ hN hb hk),wr_succ (by omega)]
   cases placeB h.V h.usable p (i:Int)
   ·rw[if_neg (by simp),if_neg (by simp)];rfl
   ·rw[if_pos rfl,if_pos rfl]
    simp only[cond_true]
    rw[gdD (by simp only[List.length_singleton];omega)])
  (fun n w=>by show place_Hall_All_l0 k h p (n+1) w _=_;rw[place_Hall_All_l0,condN (by omega)])
  hN [] (by simp)
 have e:place_Hall_All_l0 k h p k [] 0=_:=e
 rw[bindS e]
 rfl
theorem ref6_Hall_All_eq {k:Nat} {h:Ref6Hall} (p:Party) (hN:h.V.Seats.length < k) (hb:k≤4294967290) (hk:1000 < k):ref6_Hall_All k h p=some (allL h.V h.U p):=by
 unfold ref6_Hall_All
 have e:=gather0 (f:=fun n a i=>ref6_Hall_All_l0 k h p n a i) (len:=h.V.Seats.length) (c:=0) (fun s:Nat=>placeB h.V h.U p (s:Int)) (fun j:Nat=>(j:Int))
  (fun n i w hi hw=>by
   show ref6_Hall_All_l0 k h p (n+1) w (i:Int)=ref6_Hall_All_l0 k h p n _ _
   rw[ref6_Hall_All_l0,condD (by omega),bindS (ref6_Hall_May_eq p hN hb hk),wr_succ (by omega)]
   cases placeB h.V h.U p (i:Int)
   ·rw[if_neg (by simp)];rfl
   ·rw[if_pos rfl,cond_true,gdD (by simp only[List.length_singleton];omega)])
  (fun n w=>by show ref6_Hall_All_l0 k h p (n+1) w _=_;rw[ref6_Hall_All_l0,condN (by omega)])
  hN [] (by simp)
 have e:ref6_Hall_All_l0 k h p k [] 0=_:=e
 rw[bindS e]
 rfl
theorem allL_len (v:Venue) (U:List Bool) (p:Party):(allL v U p).length≤v.Seats.length:=by
 unfold allL
 rw[List.length_map]
 have:=List.length_filter_le (fun s:Nat=>placeB v U p (s:Int)) (List.range v.Seats.length)
 rw[List.length_range] at this
 exact this
/- apart -/
def ApP (v:Venue) (s:Int) (m:Nat) (t:Int) (n:Nat):Prop:=∀x,x < m→∀y,y < n→¬s+(x:Int)=t+(y:Int)∧closeB (seatA v (s+x)) (seatA v (t+y)) v.Radius=false
open Classical in
noncomputable def apB (v:Venue) (s:Int) (m:Nat) (t:Int) (n:Nat):Bool:=decide (ApP v s m t n)
open Classical in
theorem apB_iff {v:Venue} {s:Int} {m:Nat} {t:Int} {n:Nat} : apB v s m t n=true ↔ ApP v s m t n:=by unfold apB;exact decide_eq_true_iff
theorem apB_no {v:Venue} {s:Int} {m:Nat} {t:Int} {n:Nat} (h:¬ApP v s m t n):apB v s m t n=false:=by
 cases e:apB v s m t n
 ·rfl
 ·exact absurd (apB_iff.1 e) h
theorem ap_gen {v:Venue} {s:Int} {m:Nat} {t:Int} {n:Nat} {f2:Nat→Int→Option (Ex Unit Bool)} {f3:Int→Nat→Int→Option (Ex Unit Bool)} {k:Nat}
  (hs3:∀(x:Nat) q (y:Nat),x < m→y < n→f3 (s+x) (q+1) (t+y)=if ¬s+(x:Int)=t+(y:Int)∧closeB (seatA v (s+x)) (seatA v (t+y)) v.Radius=false then f3 (s+x) q (t+((y+1:Nat):Int)) else some (.rt false))
  (he3:∀(x:Nat) q,x < m→f3 (s+x) (q+1) (t+n)=some (.go ()))
  (hs2:∀q (x:Nat),x < m→f2 (q+1) (s+x)=Option.bind (f3 (s+x) k t) fun o=>Ex.elim o (fun _=>f2 q (s+((x+1:Nat):Int))) (fun rr=>some (.rt rr)))
  (he2:∀q,f2 (q+1) (s+m)=some (.go ())) (hm:m < k) (hn:n < k):f2 k s=some (if apB v s m t n=true then .go () else .rt false):=by
 have h3:∀x:Nat,x < m→((∀y,y < n→¬s+(x:Int)=t+(y:Int)∧closeB (seatA v (s+x)) (seatA v (t+y)) v.Radius=false)∧f3 (s+x) k t=some (.go ()))∨((¬∀y,y < n→¬s+(x:Int)=t+(y:Int)∧closeB (seatA v (s+x)) (seatA v (t+y)) v.Radius=false)∧f3 (s+x) k t=some (.rt false)):=fun x hx=>by
  have:=scan (f:=fun q i=>f3 (s+x) q (t+i)) (len:=n) (fun y=>¬s+(x:Int)=t+(y:Int)∧closeB (seatA v (s+x)) (seatA v (t+y)) v.Radius=false) (r:=false)
   (fun q y hy hg=>by show f3 (s+x) (q+1) (t+y)=_;rw[hs3 x q y hx hy,if_pos hg])
   (fun q y hy hg=>by show f3 (s+x) (q+1) (t+y)=_;rw[hs3 x q y hx hy,if_neg hg])
   (fun q=>he3 x q hx) hn
  simp only[Int.add_zero] at this
  exact this
 have:=scan (f:=fun q i=>f2 q (s+i)) (len:=m) (fun x=>∀y,y < n→¬s+(x:Int)=t+(y:Int)∧closeB (seatA v (s+x)) (seatA v (t+y)) v.Radius=false) (r:=false)
   (fun q x hx hg=>by
    show f2 (q+1) (s+x)=_
    rcases h3 x hx with⟨_,e⟩ | ⟨hn,_⟩
    ·rw[hs2 q x hx,bindS e,elim_go]
    ·exact absurd hg hn)
   (fun q x hx hg=>by
    show f2 (q+1) (s+x)=_
    rcases h3 x hx with⟨hy,_⟩ | ⟨_,e⟩
    ·exact absurd hy hg
    ·rw[hs2 q x hx,bindS e,elim_rt])
   (fun q=>he2 q) hm
 simp only[Int.add_zero] at this
 rcases this with⟨a,b⟩ | ⟨a,b⟩
 ·rw[b,apB_iff.2 a]
  rfl
 ·rw[b,apB_no a]
  rfl
theorem place_Hall_Apart_eq {k:Nat} {h:PlaceHall} {p q:Party} {s t:Int} {m n:Nat} (hp:p.Size=m) (hq:q.Size=n) (hs:0≤s∧s+m≤h.V.Seats.length) (ht:0≤t∧t+n≤h.V.Seats.length) (hN:h.V.Seats.length < k) (hb:k≤4294967290) (hk:1000 < k):place_Hall_Apart k h p s q t=some (apB h.V s m t n):=by
 unfold place_Hall_Apart
 have e:=ap_gen (v:=h.V) (s:=s) (m:=m) (t:=t) (n:=n) (f2:=fun a b=>place_Hall_Apart_l2 k h p s q t a b) (f3:=fun x a b=>place_Hall_Apart_l3 k h q t x a b) (k:=k)
  (fun x z y hx hy=>by
   show place_Hall_Apart_l3 k h q t (s+x) (z+1) (t+y)=if _ then place_Hall_Apart_l3 k h q t (s+x) z _ else _
   rw[place_Hall_Apart_l3,hq,wr_id (x:=t+(n:Int)) (by omega) (by omega),condD (by omega),bindS (seat_idx (by omega) (by omega)),bindS (seat_idx (by omega) (by omega)),bindS (geom_Close_eq _ _ _ _ (by omega)),wr_id (x:=t+(y:Int)+1) (by omega) (by omega),show t+(y:Int)+1=t+((y+1:Nat):Int) by omega]
   by_cases h1:s+(x:Int)=t+(y:Int)
   ·rw[condD h1,if_neg (fun h=>h.1 h1)]
   ·rw[condN h1]
    cases hc:closeB (seatA h.V (s+x)) (seatA h.V (t+y)) h.V.Radius
    ·rw[if_pos ⟨h1,rfl⟩];rfl
    ·rw[if_neg (fun h=>by cases h.2)];rfl)
  (fun x z hx=>by
   show place_Hall_Apart_l3 k h q t (s+x) (z+1) (t+n)=_
   rw[place_Hall_Apart_l3,hq,wr_id (x:=t+(n:Int)) (by omega) (by omega),condN (by omega)])
  (fun z x hx=>by
   show place_Hall_Apart_l2 k h p s q t (z+1) (s+x)=_
   rw[place_Hall_Apart_l2,hp,wr_id (x:=s+(m:Int)) (by omega) (by omega),condD (by omega),wr_id (x:=s+(x:Int)+1) (by omega) (by omega),show s+(x:Int)+1=s+((x+1:Nat):Int) by omega])
  (fun z=>by
   show place_Hall_Apart_l2 k h p s q t (z+1) (s+m)=_
   rw[place_Hall_Apart_l2,hp,wr_id (x:=s+(m:Int)) (by omega) (by omega),condN (by omega)])
  (by omega) (by omega)
 have e:place_Hall_Apart_l2 k h p s q t k s=_:=e
 rw[bindS e]
 cases apB h.V s m t n
 ·rw[if_neg (by simp),elim_rt]
 ·rw[if_pos rfl,elim_go]
theorem ref6_clash_eq {k:Nat} {v:Venue} (hM:MayV v) {x y:Int} (hx:0≤x∧x < v.Seats.length) (hy:0≤y∧y < v.Seats.length) (hxy:¬x=y):ref6_clash k v x y=some (closeB (seatA v x) (seatA v y) v.Radius):=by
 have hr:=hM.radius
 unfold ref6_clash
 rw[bindS (ref6_seat_eq _ _ _),condD hx,bindS (ref6_seat_eq _ _ _),condD hy,condNF hxy,bindS (seat_idx hx.1 hx.2),bindS (seat_idx hy.1 hy.2),bindS (ref6_Far_eq _ _ _),bindS (ref6_square_eq _ _ ⟨by omega,by omega⟩)]
 rfl
end Go.Px

set_option linter.unusedVariables false
set_option linter.unusedSimpArgs false
namespace Go.Px
open Go Go.Sh
noncomputable def plB (v:Venue) (p:Party) (s:Int):Bool:=mayB v && placeB v (usL v) p s
theorem placeB_pos {v:Venue} {U:List Bool} {p:Party} {s:Int} (hN:v.Seats.length < 4294967290) (h:placeB v U p s=true):MayP p∧0≤s∧s+p.Size≤v.Seats.length∧p.Size≤runN v U s:=by
 unfold placeB at h
 rw[Bool.and_eq_true,decide_eq_true_iff] at h
 have:=runN_pos (v:=v) (U:=U) (s:=s) hN (by omega)
 exact⟨h.1.1,this.1,by omega,h.1.2⟩
theorem place_In_eq {k:Nat} {v:Venue} (hv:Small k v):place_In k v=some (PlaceHall.mk v (cond (mayB v) (usL v) []),mayB v):=by
 have hb:=hv.b
 unfold place_In
 rw[bindS (kill_Usable_eq hv),bindS (venue_May_eq k v hv.hs hv.hk hv.hp (by omega))]
theorem ref6_NewHall_eq {k:Nat} {v:Venue} (hv:Small k v):ref6_NewHall k v=some (cond (mayB v) (some (Ref6Hall.mk v (usL v))) none):=by
 have hb:=hv.b
 unfold ref6_NewHall
 rw[bindS (ref2_May_eq k v hv.hs hv.hk hv.hp (by omega)),bindS (ref6_Usable_eq hv)]
 cases mayB v <;> rfl
noncomputable def allV (v:Venue) (p:Party):List Int:=cond (mayB v) (allL v (usL v) p) []
theorem allV_len (v:Venue) (p:Party):(allV v p).length≤v.Seats.length:=by
 unfold allV
 cases mayB v
 ·simp
 ·exact allL_len _ _ _
theorem ref6_AllPlaces_eq {k:Nat} {v:Venue} (hv:Small k v) (hk:1000 < k) (p:Party):ref6_AllPlaces k v p=some (allV v p):=by
 unfold ref6_AllPlaces allV
 rw[bindS (ref6_NewHall_eq hv)]
 cases mayB v
 ·rw[cond_false,optc_none];rfl
 rw[cond_true,optc_some,bindS (ref6_Hall_All_eq p hv.hs hv.b hk)]
 rfl
noncomputable def aptB (v:Venue) (p:Party) (s:Int) (q:Party) (t:Int):Bool:=plB v p s && (plB v q t && apB v s p.Size.toNat t q.Size.toNat)
theorem ref6_Hall_Apart_eq {k:Nat} {v:Venue} (hv:Small k v) (hM:MayV v) (hk:1000 < k) (p:Party) {s:Int} (q:Party) {t:Int} : ref6_Hall_Apart k (Ref6Hall.mk v (usL v)) p s q t=some (placeB v (usL v) p s && (placeB v (usL v) q t && apB v s p.Size.toNat t q.Size.toNat)):=by
 have hN:=hv.hs
 have hb:=hv.b
 unfold ref6_Hall_Apart
 rw[bindS (ref6_Hall_May_eq p hv.hs hv.b hk),bindS (ref6_Hall_May_eq q hv.hs hv.b hk)]
 simp only
 cases h1:placeB v (usL v) p s
 ·rfl
 rw[cNT,bindS rfl]
 cases h2:placeB v (usL v) q t
 ·rfl
 rw[cNT,Bool.true_and,Bool.true_and]
 obtain⟨a1,a2,a3,a4⟩:=placeB_pos (by omega) h1
 obtain⟨b1,b2,b3,b4⟩:=placeB_pos (by omega) h2
 obtain⟨m,hp⟩:=Int.eq_ofNat_of_zero_le (by omega:0≤p.Size)
 obtain⟨n,hq⟩:=Int.eq_ofNat_of_zero_le (by omega:0≤q.Size)
 have e:=ap_gen (v:=v) (s:=s) (m:=m) (t:=t) (n:=n) (f2:=fun a b=>ref6_Hall_Apart_l2 k (Ref6Hall.mk v (usL v)) p s q t a b) (f3:=fun x a b=>ref6_Hall_Apart_l3 k (Ref6Hall.mk v (usL v)) q t x a b) (k:=k)
  (fun x z y hx hy=>by
   show ref6_Hall_Apart_l3 k (Ref6Hall.mk v (usL v)) q t (s+x) (z+1) (t+y)=if _ then ref6_Hall_Apart_l3 k (Ref6Hall.mk v (usL v)) q t (s+x) z _ else _
   rw[ref6_Hall_Apart_l3,hq,wr_id (x:=t+(n:Int)) (by omega) (by omega),condD (by omega),wr_id (x:=t+(y:Int)+1) (by omega) (by omega),show t+(y:Int)+1=t+((y+1:Nat):Int) by omega]
   by_cases h1:s+(x:Int)=t+(y:Int)
   ·rw[condD h1,if_neg (fun h=>h.1 h1)]
   ·rw[condN h1,bindS (ref6_clash_eq (k:=k) (v:=v) hM (x:=s+x) (y:=t+y) (by omega) (by omega) h1)]
    cases hc:closeB (seatA v (s+x)) (seatA v (t+y)) v.Radius
    ·rw[if_pos ⟨h1,rfl⟩];rfl
    ·rw[if_neg (fun h=>by cases h.2)];rfl)
  (fun x z hx=>by
   show ref6_Hall_Apart_l3 k (Ref6Hall.mk v (usL v)) q t (s+x) (z+1) (t+n)=_
   rw[ref6_Hall_Apart_l3,hq,wr_id (x:=t+(n:Int)) (by omega) (by omega),condN (by omega)])
  (fun z x hx=>by
   show ref6_Hall_Apart_l2 k (Ref6Hall.mk v (usL v)) p s q t (z+1) (s+x)=_
   rw[ref6_Hall_Apart_l2,hp,wr_id (x:=s+(m:Int)) (by omega) (by omega),condD (by omega),wr_id (x:=s+(x:Int)+1) (by omega) (by omega),show s+(x:Int)+1=s+((x+1:Nat):Int) by omega])
  (fun z=>by
   show ref6_Hall_Apart_l2 k (Ref6Hall.mk v (usL v)) p s q t (z+1) (s+m)=_
   rw[ref6_Hall_Apart_l2,hp,wr_id (x:=s+(m:Int)) (by omega) (by omega),condN (by omega)])
  (by omega) (by omega)
 have e:ref6_Hall_Apart_l2 k (Ref6Hall.mk v (usL v)) p s q t k s=_:=e
 rw[bindS e,hp,hq,Int.toNat_natCast,Int.toNat_natCast]
 cases apB v s m t n
 ·rw[if_neg (by simp),elim_rt]
 ·rw[if_pos rfl,elim_go]
end Go.Px

set_option linter.unusedVariables false
set_option linter.unusedSimpArgs false
namespace Go.Px
open Go Go.Sh
theorem far_symm (a b:Seat):far a b=far b a:=by
 unfold far
 by_cases h:CoordP a.X∧CoordP a.Y∧CoordP b.X∧CoordP b.Y
 ·rw[if_pos h,if_pos ⟨h.2.2.1,h.2.2.2,h.1,h.2.1⟩,show b.X-a.X = -(a.X-b.X) by omega,show b.Y-a.Y = -(a.Y-b.Y) by omega,Int.neg_mul_neg,Int.neg_mul_neg]
 ·rw[if_neg h,if_neg (fun h'=>h ⟨h'.2.2.1,h'.2.2.2,h'.1,h'.2.1⟩)]
theorem closeB_symm (a b:Seat) (r:Int):closeB a b r=closeB b a r:=by unfold closeB;rw[far_symm]
theorem ApP_symm {v:Venue} {s:Int} {m:Nat} {t:Int} {n:Nat} (h:ApP v s m t n):ApP v t n s m:=fun y hy x hx=>by
 obtain⟨a,b⟩:=h x hx y hy
 exact⟨fun e=>a e.symm,by rw[closeB_symm];exact b⟩
theorem apB_symm {v:Venue} {s:Int} {m:Nat} {t:Int} {n:Nat} : apB v s m t n=apB v t n s m:=by
 rw[Bool.eq_iff_iff,apB_iff,apB_iff]
 exact⟨ApP_symm,ApP_symm⟩
theorem aptB_symm {v:Venue} {p:Party} {s:Int} {q:Party} {t:Int} : aptB v p s q t=aptB v q t p s:=by
 unfold aptB
 rw[apB_symm]
 cases plB v p s <;> cases plB v q t <;> rfl
/- venues alike in all but kills, poles and radius -/
end Go.Px

set_option linter.unusedVariables false
set_option linter.unusedSimpArgs false
namespace Go.Px
open Go Go.Sh
theorem allL_sorted (v:Venue) (U:List Bool) (p:Party):(allL v U p).Pairwise (· < ·):=by
 unfold allL
 rw[List.pairwise_map]
 refine List.Pairwise.imp (fun h=>?_) (List.Pairwise.filter _ List.pairwise_lt_range)
 omega
end Go.Px

set_option linter.unusedVariables false
set_option linter.unusedSimpArgs false
namespace Go.Px
open Go Go.Sh
section
open Classical
noncomputable def dB (p:Prop):Bool:=decide p
theorem dB_iff {p:Prop} : dB p=true ↔ p:=by unfold dB;exact decide_eq_true_iff
theorem dB_T {p:Prop} (h:p):dB p=true:=dB_iff.2 h
theorem dB_F {p:Prop} (h:¬p):dB p=false:=by
 cases e:dB p
 ·rfl
 ·exact absurd (dB_iff.1 e) h
noncomputable def fstF (g:Nat→Prop):Nat→Nat→Int
 | 0,_ => -1
 | d+1,i=>if g i then fstF g d (i+1) else (i:Int)
theorem fstF_no {g:Nat→Prop} : ∀ {d i:Nat},fstF g d i = -1 ↔ ∀j,i≤j→j < i+d→g j
 | 0,i=>⟨fun _ j h1 h2=>absurd h2 (by omega),fun _=>rfl⟩
 | d+1,i=>by
  rw[fstF]
  split
  ·rename_i hg
   rw[fstF_no]
   constructor
   ·intro h j h1 h2
    rcases Nat.lt_or_ge i j with hl | hl
    ·exact h j (by omega) (by omega)
    ·rw[show j=i by omega];exact hg
   ·intro h j h1 h2
    exact h j (by omega) (by omega)
  ·rename_i hg
   constructor
   ·intro h;omega
   ·intro h;exact absurd (h i (by omega) (by omega)) hg
theorem fstF_at {g:Nat→Prop} {m:Nat} : ∀ {d i:Nat},i≤m→m < i+d→(∀j,i≤j→j < m→g j)→¬g m→fstF g d i=(m:Int)
 | 0,i,_,h,_,_=>absurd h (by omega)
 | d+1,i,h1,h2,h3,h4=>by
  rw[fstF]
  split
  ·rename_i hg
   rcases Nat.lt_or_ge i m with hl | hl
   ·exact fstF_at (by omega) (by omega) (fun j a b=>h3 j (by omega) b) h4
   ·exact absurd (show g m by rw[show m=i by omega];exact hg) h4
  ·rename_i hg
   rcases Nat.lt_or_ge i m with hl | hl
   ·exact absurd (h3 i (by omega) hl) hg
   ·rw[show i=m by omega]
end
theorem fstF_all {g:Nat→Prop} {n:Nat} : fstF g n 0 = -1 ↔ ∀j,j < n→g j:=by
 rw[fstF_no]
 exact⟨fun h j hj=>h j (by omega) (by omega),fun h j _ hj=>h j (by omega)⟩
theorem scanF {τ ρ:Type} {F:Nat→Nat→Option (Ex τ ρ)} {len:Nat} (g:Nat→Prop) {t : τ} (r:Nat → ρ)
  (hs:∀n i:Nat,i < len→(∀j,j < i→g j)→g i→F (n+1) i=F n (i+1))
  (hf:∀n i:Nat,i < len→(∀j,j < i→g j)→¬g i→F (n+1) i=some (.rt (r i)))
  (he:∀n,(∀j,j < len→g j)→F (n+1) len=some (.go t)):∀d n i:Nat,i+d=len→d < n→(∀j,j < i→g j)→F n i=some (if fstF g d i = -1 then .go t else .rt (r (fstF g d i).toNat))
 | d,0,i,_,h,_=>absurd h (by omega)
 | 0,n+1,i,hi,_,hg=>by
  obtain rfl:i=len:=by omega
  rw[he n hg,fstF,if_pos rfl]
 | d+1,n+1,i,hi,h,hg=>by
  rw[fstF]
  rcases Classical.em (g i) with hh | hh
  ·rw[hs n i (by omega) hg hh,if_pos hh]
   refine scanF g r hs hf he d n (i+1) (by omega) (by omega) fun j hj=>?_
   rcases Nat.lt_or_ge j i with hl | hl
   ·exact hg j hl
   ·rw[show j=i by omega];exact hh
  ·rw[hf n i (by omega) hg hh,if_neg hh,if_neg (by omega),Int.toNat_natCast]
theorem scanF0 {τ ρ:Type} {F:Nat→Nat→Option (Ex τ ρ)} {len k:Nat} (g:Nat→Prop) {t : τ} (r:Nat → ρ)
  (hs:∀n i:Nat,i < len→(∀j,j < i→g j)→g i→F (n+1) i=F n (i+1))
  (hf:∀n i:Nat,i < len→(∀j,j < i→g j)→¬g i→F (n+1) i=some (.rt (r i)))
  (he:∀n,(∀j,j < len→g j)→F (n+1) len=some (.go t)) (hk:len < k):F k 0=some (if fstF g len 0 = -1 then .go t else .rt (r (fstF g len 0).toNat)) :=
 scanF g r hs hf he len k 0 (by omega) hk (fun j hj=>absurd hj (by omega))
theorem scanB {τ ρ:Type} {F:Nat→Nat→Option (Ex τ ρ)} {len k:Nat} (g:Nat→Prop) {t : τ} {r : ρ}
  (hs:∀n i:Nat,i < len→(∀j,j < i→g j)→g i→F (n+1) i=F n (i+1))
  (hf:∀n i:Nat,i < len→(∀j,j < i→g j)→¬g i→F (n+1) i=some (.rt r))
  (he:∀n,(∀j,j < len→g j)→F (n+1) len=some (.go t)) (hk:len < k):F k 0=some (if dB (∀j,j < len→g j)=true then .go t else .rt r):=by
 rw[scanF0 g (fun _=>r) hs hf he hk]
 rcases Classical.em (∀j,j < len→g j) with h | h
 ·rw[dB_T h,if_pos (fstF_all.2 h),if_pos rfl]
 ·rw[dB_F h,if_neg (fun e=>h (fstF_all.1 e)),if_neg (by simp)]
def aI {α:Type} [Inhabited α] (l:List α) (x:Int) : α:=l.getD x.toNat default
theorem idx_aI {α:Type} [Inhabited α] {l:List α} {x:Int} (h0:0≤x) (h:x < (l.length:Int)):idx l x=some (aI l x):=by
 refine idx_get h0 ?_
 unfold aI
 rw[List.getD_eq_getElem?_getD,List.getElem?_eq_getElem (by omega)]
 rfl
theorem aI_mem {α:Type} [Inhabited α] {l:List α} {x:Int} (h0:0≤x) (h:x < (l.length:Int)):aI l x ∈ l:=by
 unfold aI
 rw[List.getD_eq_getElem?_getD,List.getElem?_eq_getElem (by omega)]
 exact List.getElem_mem _
theorem mem_aI {α:Type} [Inhabited α] {l:List α} {y : α} (h:y ∈ l):∃i:Nat,i < l.length∧aI l (i:Int)=y:=by
 obtain⟨i,hi,e⟩:=List.getElem_of_mem h
 refine⟨i,hi,?_⟩
 unfold aI
 rw[Int.toNat_natCast,List.getD_eq_getElem?_getD,List.getElem?_eq_getElem hi]
 exact e
abbrev AllMay (L:List Party):Prop:=L.length≤512∧∀i:Nat,i < L.length→MayP (aI L i)
theorem party_All_1_eq (k:Nat) (p:Party):party_All_1 k p=some (!decide (MayP p)):=by
 unfold party_All_1
 rw[bindS (party_May_eq k p)]
theorem party_All_eq {k:Nat} {L:List Party} (hk:L.length < k) (hb:k≤4294967290):party_All k L=some (dB (AllMay L)):=by
 unfold party_All slices_ContainsFunc_Party slices_IndexFunc_Party
 by_cases hl:(L.length:Int)≤512
 ·rw[condD hl]
  have e:=scanF0 (F:=fun n i=>slices_IndexFunc_Party_l0 k L (fun p4=>party_All_1 k p4) n (i:Int)) (len:=L.length) (k:=k) (fun i=>MayP (aI L i)) (t:=()) (fun i=>(i:Int))
   (fun n i hi _ hg=>by
    rw[slices_IndexFunc_Party_l0,condD (by omega),bindS (idx_aI (by omega) (by omega)),bindS (party_All_1_eq k _),wr_succ (by omega),decide_eq_true hg]
    rfl)
   (fun n i hi _ hg=>by
    rw[slices_IndexFunc_Party_l0,condD (by omega),bindS (idx_aI (by omega) (by omega)),bindS (party_All_1_eq k _),wr_succ (by omega),decide_eq_false hg]
    rfl)
   (fun n _=>by
    rw[slices_IndexFunc_Party_l0,condN (by omega)]) hk
  have e:slices_IndexFunc_Party_l0 k L (fun p4=>party_All_1 k p4) k 0=_:=e
  rw[e]
  rcases Classical.em (∀j:Nat,j < L.length→MayP (aI L j)) with h | h
  ·rw[if_pos (fstF_all.2 h),dB_T ⟨by omega,h⟩,bindS (x:=some _) rfl,elim_go]
   rfl
  ·have hne:¬fstF (fun i:Nat=>MayP (aI L i)) L.length 0 = -1:=fun e=>h (fstF_all.1 e)
   rw[if_neg hne,dB_F (fun x=>h x.2),bindS (x:=some _) rfl,elim_rt,bindS (x:=some _) rfl,bindS (x:=some _) rfl,decide_eq_true (by omega)]
   rfl
 ·rw[condN hl,dB_F (fun h=>hl (by omega))]
theorem ref6_AllParties_eq {k:Nat} {L:List Party} (hk:L.length < k) (hb:k≤4294967290):ref6_AllParties k L=some (dB (AllMay L)):=by
 unfold ref6_AllParties
 have e:=scanB (F:=fun n i=>ref6_AllParties_l0 k L n (i:Int)) (len:=L.length) (k:=k) (fun i=>MayP (aI L i)) (t:=()) (r:=false)
  (fun n i hi _ hg=>by
   rw[ref6_AllParties_l0,condD (by omega),bindS (idx_aI (by omega) (by omega)),bindS (ref6_MayParty_eq k _),wr_succ (by omega),decide_eq_true hg]
   rfl)
  (fun n i hi _ hg=>by
   rw[ref6_AllParties_l0,condD (by omega),bindS (idx_aI (by omega) (by omega)),bindS (ref6_MayParty_eq k _),wr_succ (by omega),decide_eq_false hg]
   rfl)
  (fun n _=>by
   rw[ref6_AllParties_l0,condN (by omega)]) hk
 have e:ref6_AllParties_l0 k L k 0=_:=e
 rw[bindS e]
 rcases Classical.em (∀j:Nat,j < L.length→MayP (aI L j)) with h | h
 ·rw[dB_T h,if_pos rfl,elim_go]
  by_cases hl:(L.length:Int)≤512
  ·rw[decide_eq_true hl,dB_T ⟨by omega,h⟩]
  ·rw[decide_eq_false hl,dB_F (fun x=>hl (by omega))]
 ·rw[dB_F h,if_neg (by simp),elim_rt,dB_F (fun x=>h x.2)]
/- maps -/
theorem mfind_snd (x:Int):∀(l:List (Int×Int)) (i j:Nat),(mfind l x i).map (·.2)=(mfind l x j).map (·.2)
 | [],_,_=>rfl
 | p::l,i,j=>by
  rw[mfind,mfind]
  split
  ·rfl
  ·exact mfind_snd x l _ _
theorem mget_nil (x:Int):mget [] x=none:=rfl
theorem mget_cons (p:Int×Int) (l:List (Int×Int)) (x:Int):mget (p::l) x=if x=p.1 then some p.2 else mget l x:=by
 unfold mget
 rw[mfind]
 split
 ·rfl
 ·exact mfind_snd x l _ _
theorem mget_mset (x y v:Int):∀l:List (Int×Int),mget (mset l y v) x=if x=y then some v else mget l x
 | []=>by rw[mset,mget_cons,mget_nil]
 | p::l=>by
  rw[mset]
  by_cases h:y=p.1
  ·rw[if_pos h,mget_cons,mget_cons]
   by_cases h2:x=y
   ·rw[if_pos h2,if_pos h2]
   ·rw[if_neg h2,if_neg h2,if_neg (by rw[← h];exact h2)]
  ·rw[if_neg h,mget_cons,mget_cons,mget_mset x y v l]
   by_cases h2:x=y
   ·rw[if_pos h2,if_pos h2,if_neg (by rw[h2];exact h)]
   ·rw[if_neg h2]
    split <;> simp_all
def pmN (P:List Pin):Nat→List (Int×Int)
 | 0=>[]
 | i+1=>mset (pmN P i) (aI P i).Party (aI P i).First
def pinAt (P:List Pin) (x:Int):Option Int:=mget (pmN P P.length) x
def RiseP (P:List Pin):Prop:=∀i j:Nat,i < j→j < P.length→(aI P i).Party < (aI P j).Party
theorem pmN_some {P:List Pin} {x f:Int} : ∀ {n:Nat},mget (pmN P n) x=some f→∃i,i < n∧(aI P (i:Int)).Party=x∧(aI P (i:Int)).First=f
 | 0,h=>by rw[pmN,mget_nil] at h;cases h
 | n+1,h=>by
  rw[pmN,mget_mset] at h
  split at h
  ·rename_i hx
   cases h
   exact⟨n,by omega,hx.symm,rfl⟩
  ·obtain⟨i,h1,h2⟩:=pmN_some h
   exact⟨i,by omega,h2⟩
theorem pmN_get {P:List Pin} (hP:RiseP P) {i:Nat} : ∀ {n:Nat},i < n→n≤P.length→mget (pmN P n) (aI P (i:Int)).Party=some (aI P (i:Int)).First
 | 0,h,_=>absurd h (by omega)
 | n+1,h,hn=>by
  rw[pmN,mget_mset]
  by_cases hi:i=n
  ·rw[hi,if_pos rfl]
  ·have:=hP i n (by omega) (by omega)
   rw[if_neg (by omega)]
   exact pmN_get hP (by omega) (by omega)
theorem pinAt_get {P:List Pin} (hP:RiseP P) {i:Nat} (h:i < P.length):pinAt P (aI P (i:Int)).Party=some (aI P (i:Int)).First:=pmN_get hP h (Nat.le_refl _)
theorem pinAt_some {P:List Pin} {x f:Int} (h:pinAt P x=some f):∃i,i < P.length∧(aI P (i:Int)).Party=x∧(aI P (i:Int)).First=f:=pmN_some h
theorem ref6_pinned_eq {k:Nat} {P:List Pin} (hP:RiseP P) (hk:P.length < k) (hb:k≤4294967290) (x:Int):ref6_pinned k P x=some ((pinAt P x).getD (-1),(pinAt P x).isSome):=by
 unfold ref6_pinned
 have e:=scanF0 (F:=fun n i=>ref6_pinned_l0 k P x n (i:Int)) (len:=P.length) (k:=k) (fun i=>¬(aI P (i:Int)).Party=x) (t:=()) (fun i=>((aI P (i:Int)).First,true))
  (fun n i hi _ hg=>by
   rw[ref6_pinned_l0,condD (by omega),bindS (idx_aI (by omega) (by omega)),wr_succ (by omega),condN hg])
  (fun n i hi _ hg=>by
   rw[ref6_pinned_l0,condD (by omega),bindS (idx_aI (by omega) (by omega)),condD (Classical.not_not.1 hg),bindS (idx_aI (by omega) (by omega))])
  (fun n _=>by
   rw[ref6_pinned_l0,condN (by omega)]) hk
 have e:ref6_pinned_l0 k P x k 0=_:=e
 rw[bindS e]
 rcases Classical.em (∀j:Nat,j < P.length→¬(aI P (j:Int)).Party=x) with h | h
 ·rw[if_pos (fstF_all.2 h),elim_go]
  cases hp:pinAt P x with
  | none=>rfl
  | some f =>
   obtain⟨i,h1,h2,_⟩:=pinAt_some hp
   exact absurd h2 (h i h1)
 ·obtain⟨j,hj⟩:=Classical.not_forall.1 h
  obtain⟨h1,h2⟩:=Classical.not_imp.1 hj
  have h2:=Classical.not_not.1 h2
  have hf:fstF (fun i:Nat=>¬(aI P (i:Int)).Party=x) P.length 0=(j:Int):=fstF_at (by omega) (by omega) (fun i _ hi e=>by have:=hP i j hi h1;omega) (fun e=>e h2)
  rw[hf,if_neg (by omega),elim_rt,Int.toNat_natCast,← h2,pinAt_get hP h1]
  rfl
/- the halls' own words for one hall that may be -/
section
variable {k:Nat} {v:Venue}
theorem plB_in (hv:Small k v) {p:Party} {s:Int} (h:plB v p s=true):MayV v∧MayP p∧0≤s∧s+p.Size≤v.Seats.length:=by
 have hN:=hv.hs
 have hb:=hv.b
 unfold plB at h
 rw[Bool.and_eq_true] at h
 have:=placeB_pos (by omega) h.2
 exact⟨mayB_iff.1 h.1,this.1,this.2.1,this.2.2.1⟩
theorem plB_of (hM:MayV v) (p:Party) (s:Int):placeB v (usL v) p s=plB v p s:=by
 unfold plB
 rw[mayB_iff.2 hM,Bool.true_and]
theorem hall_Seats (hv:Small k v) (hM:MayV v) (hk:1000 < k) (p:Party) {s:Int} (hs:okI s):place_Hall_Seats k (PlaceHall.mk v (usL v)) p s=some (if plB v p s=true then (rangeL s p.Size.toNat,true) else ([],false)):=by
 rw[place_Hall_Seats_eq p hs hv.hs hv.b hk,← plB_of hM]
theorem hall_Seats2 (hv:Small k v) (hM:MayV v) (hk:1000 < k) (p:Party) {s:Int} (hs:okI s):∃l,place_Hall_Seats k (PlaceHall.mk v (usL v)) p s=some (l,plB v p s):=by
 rw[hall_Seats hv hM hk p hs]
 cases plB v p s
 ·exact⟨_,rfl⟩
 ·exact⟨_,rfl⟩
theorem rhall_May (hv:Small k v) (hM:MayV v) (hk:1000 < k) (p:Party) (s:Int):ref6_Hall_May k (Ref6Hall.mk v (usL v)) p s=some (plB v p s):=by
 rw[ref6_Hall_May_eq p hv.hs hv.b hk,← plB_of hM]
theorem rhall_Apart (hv:Small k v) (hM:MayV v) (hk:1000 < k) (p:Party) (s:Int) (q:Party) (t:Int):ref6_Hall_Apart k (Ref6Hall.mk v (usL v)) p s q t=some (aptB v p s q t):=by
 rw[ref6_Hall_Apart_eq hv hM hk p q]
 unfold aptB
 rw[← plB_of hM,← plB_of hM]
theorem hall_Apart (hv:Small k v) (hM:MayV v) (hk:1000 < k) {p:Party} {s:Int} {q:Party} {t:Int} (h1:plB v p s=true) (h2:plB v q t=true):place_Hall_Apart k (PlaceHall.mk v (usL v)) p s q t=some (aptB v p s q t):=by
 obtain⟨_,a1,a2,a3⟩:=plB_in hv h1
 obtain⟨_,b1,b2,b3⟩:=plB_in hv h2
 rw[place_Hall_Apart_eq (m:=p.Size.toNat) (n:=q.Size.toNat) (by omega) (by omega) (by show 0≤s∧s+(p.Size.toNat:Int)≤(v.Seats.length:Int);omega) (by show 0≤t∧t+(q.Size.toNat:Int)≤(v.Seats.length:Int);omega) hv.hs hv.b hk]
 unfold aptB
 rw[h1,h2,Bool.true_and,Bool.true_and]
end
/- pins -/
structure PinG (v:Venue) (L:List Party) (P:List Pin) (i:Nat):Prop where
 lo:0≤(aI P (i:Int)).Party
 hi:(aI P (i:Int)).Party < L.length
 rise:0 < i→(aI P ((i-1:Nat):Int)).Party < (aI P (i:Int)).Party
 pl:plB v (aI L (aI P (i:Int)).Party) (aI P (i:Int)).First=true
 ap:∀j:Nat,j < i→aptB v (aI L (aI P (i:Int)).Party) (aI P (i:Int)).First (aI L (aI P (j:Int)).Party) (aI P (j:Int)).First=true
abbrev PinOK (v:Venue) (L:List Party) (P:List Pin):Prop:=∀i,i < P.length→PinG v L P i
theorem PinOK.rise {v:Venue} {L:List Party} {P:List Pin} (h:PinOK v L P):RiseP P:=by
 intro i j hij hj
 obtain⟨d,rfl⟩:∃d,j=i+1+d:=⟨j-(i+1),by omega⟩
 clear hij
 induction d with
 | zero =>
  have:=(h (i+1) hj).rise (by omega)
  exact this
 | succ d ih =>
  have:=(h (i+1+(d+1)) hj).rise (by omega)
  rw[show i+1+(d+1)-1=i+1+d by omega] at this
  have:=ih (by omega)
  omega
theorem PinOK_nil {v:Venue} {L:List Party} : PinOK v L []:=fun i hi=>absurd hi (by simp)
section
variable {k:Nat} {v:Venue} {L:List Party} {P:List Pin}
theorem ref6_Hall_Pins_eq (hv:Small k v) (hM:MayV v) (hk:1000 < k) (hL:L.length < k) (hP:P.length < k):ref6_Hall_Pins k (Ref6Hall.mk v (usL v)) L P=some (dB (PinOK v L P∧AllMay L)):=by
 have hb:=hv.b
 unfold ref6_Hall_Pins
 have h3:∀i:Nat,i < P.length→0≤(aI P (i:Int)).Party→(aI P (i:Int)).Party < L.length→(∀j,j < i→PinG v L P j)→ref6_Hall_Pins_l3 k (Ref6Hall.mk v (usL v)) L P (i:Int) (aI P (i:Int)) k 0=some (if dB (∀j:Nat,j < i→aptB v (aI L (aI P (i:Int)).Party) (aI P (i:Int)).First (aI L (aI P (j:Int)).Party) (aI P (j:Int)).First=true)=true then .go () else .rt false):=fun i hi h1 h2 hG =>
  scanB (F:=fun n j=>ref6_Hall_Pins_l3 k (Ref6Hall.mk v (usL v)) L P (i:Int) (aI P (i:Int)) n (j:Int)) (len:=i) (k:=k) (fun j=>aptB v (aI L (aI P (i:Int)).Party) (aI P (i:Int)).First (aI L (aI P (j:Int)).Party) (aI P (j:Int)).First=true) (t:=()) (r:=false)
   (fun n j hj _ hg=>by
    have hGj:=hG j hj
    rw[ref6_Hall_Pins_l3,condD (by omega),bindS (idx_aI h1 h2),bindS (idx_aI (by omega) (by omega)),bindS (idx_aI (by omega) (by omega)),bindS (idx_aI hGj.lo hGj.hi),bindS (idx_aI (by omega) (by omega)),bindS (rhall_Apart hv hM hk _ _ _ _),hg,cNT,wr_succ (by omega)])
   (fun n j hj _ hg=>by
    have hGj:=hG j hj
    rw[ref6_Hall_Pins_l3,condD (by omega),bindS (idx_aI h1 h2),bindS (idx_aI (by omega) (by omega)),bindS (idx_aI (by omega) (by omega)),bindS (idx_aI hGj.lo hGj.hi),bindS (idx_aI (by omega) (by omega)),bindS (rhall_Apart hv hM hk _ _ _ _),Bool.eq_false_iff.2 hg,cNF])
   (fun n _=>by
    rw[ref6_Hall_Pins_l3,condN (by omega)]) (by omega)
 have step:∀n i:Nat,i < P.length→(∀j,j < i→PinG v L P j)→ref6_Hall_Pins_l2 k (Ref6Hall.mk v (usL v)) L P (n+1) (i:Int)=if dB (PinG v L P i)=true then ref6_Hall_Pins_l2 k (Ref6Hall.mk v (usL v)) L P n ((i+1:Nat):Int) else some (.rt false):=fun n i hi hG=>by
  rw[ref6_Hall_Pins_l2,condD (by omega),bindS (idx_aI (by omega) (by omega))]
  by_cases h1:(aI P (i:Int)).Party < 0
  ·rw[condD h1,bindS rfl,condT rfl,dB_F (fun h=>by have:=h.lo;omega),if_neg (by simp)]
  by_cases h2:(L.length:Int)≤(aI P (i:Int)).Party
  ·rw[condN h1,condD h2,bindS rfl,condT rfl,dB_F (fun h=>by have:=h.hi;omega),if_neg (by simp)]
  rw[condN h1,condN h2]
  have key:∀(X:Option (Ex Unit Bool)),(0 < i→(aI P ((i-1:Nat):Int)).Party < (aI P (i:Int)).Party) →
    (Option.bind (Option.bind (idx L (aI P (i:Int)).Party) fun y237=>Option.bind (idx P (i:Int)) fun y239=>Option.bind (ref6_Hall_May k (Ref6Hall.mk v (usL v)) y237 y239.First) fun r241=>some (!r241)) fun o210=>cond o210 (some (Ex.rt false)) (Option.bind (ref6_Hall_Pins_l3 k (Ref6Hall.mk v (usL v)) L P (i:Int) (aI P (i:Int)) k 0) fun o280=>Ex.elim o280 (fun v283=>X) (fun rr=>some (Ex.rt rr))))=if dB (PinG v L P i)=true then X else some (.rt false):=fun X hr=>by
   rw[bindS (idx_aI (l:=L) (by omega) (by omega)),bindS (idx_aI (l:=P) (by omega) (by omega)),bindS (rhall_May hv hM hk _ _),bindS rfl]
   cases hp:plB v (aI L (aI P (i:Int)).Party) (aI P (i:Int)).First
   ·rw[cNF,dB_F (fun h=>by have:=h.pl;rw[hp] at this;cases this),if_neg (by simp)]
   ·rw[cNT,bindS (h3 i hi (by omega) (by omega) hG)]
    rcases Classical.em (∀j:Nat,j < i→aptB v (aI L (aI P (i:Int)).Party) (aI P (i:Int)).First (aI L (aI P (j:Int)).Party) (aI P (j:Int)).First=true) with h | h
    ·rw[dB_T h,if_pos rfl,elim_go,dB_T ⟨by omega,by omega,hr,hp,h⟩,if_pos rfl]
    ·rw[dB_F h,if_neg (by simp),elim_rt,dB_F (fun x=>h x.ap),if_neg (by simp)]
  by_cases h0:0 < i
  ·rw[condD (by omega),wr_pred h0 (by omega),bindS (idx_aI (x:=((i-1:Nat):Int)) (by omega) (by omega))]
   by_cases h4:(aI P (i:Int)).Party≤(aI P ((i-1:Nat):Int)).Party
   ·rw[condD h4,bindS rfl,condT rfl,dB_F (fun h=>by have:=h.rise h0;omega),if_neg (by simp)]
   ·rw[condN h4,key _ (fun _=>by omega),wr_succ (by omega)]
  ·rw[condN (by omega),key _ (fun h=>absurd h h0),wr_succ (by omega)]
 have e:=scanB (F:=fun n i=>ref6_Hall_Pins_l2 k (Ref6Hall.mk v (usL v)) L P n (i:Int)) (len:=P.length) (k:=k) (fun i=>PinG v L P i) (t:=()) (r:=false)
  (fun n i hi hG hg=>by
   rw[step n i hi hG,dB_T hg,if_pos rfl])
  (fun n i hi hG hg=>by
   rw[step n i hi hG,dB_F hg,if_neg (by simp)])
  (fun n _=>by
   rw[ref6_Hall_Pins_l2,condN (by omega)]) hP
 have e:ref6_Hall_Pins_l2 k (Ref6Hall.mk v (usL v)) L P k 0=_:=e
 rw[bindS e]
 rcases Classical.em (PinOK v L P) with h | h
 ·rw[dB_T h,if_pos rfl,elim_go,bindS (ref6_AllParties_eq hL hb)]
  rcases Classical.em (AllMay L) with h' | h'
  ·rw[dB_T h',dB_T ⟨h,h'⟩]
  ·rw[dB_F h',dB_F (fun x=>h' x.2)]
 ·rw[dB_F h,if_neg (by simp),elim_rt,dB_F (fun x=>h x.1)]
abbrev InOK (v:Venue) (L:List Party) (P:List Pin):Prop:=MayV v∧PinOK v L P∧AllMay L
theorem ref6_MayPins_eq (hv:Small k v) (hk:1000 < k) (hL:L.length < k) (hP:P.length < k):ref6_MayPins k v L P=some (dB (InOK v L P)):=by
 unfold ref6_MayPins
 rw[bindS (ref6_NewHall_eq hv)]
 cases hm:mayB v
 ·rw[cond_false,optc_none,dB_F (fun h=>by rw[mayB_iff.2 h.1] at hm;cases hm)]
 ·rw[cond_true,optc_some,bindS (ref6_Hall_Pins_eq hv (mayB_iff.1 hm) hk hL hP)]
  rcases Classical.em (PinOK v L P∧AllMay L) with h | h
  ·rw[dB_T h,dB_T ⟨mayB_iff.1 hm,h⟩]
  ·rw[dB_F h,dB_F (fun x=>h x.2)]
theorem plan_In_eq (hv:Small k v) (hk:1000 < k) (hL:L.length < k) (hP:P.length < k) (ho:∀i:Nat,i < P.length→okI (aI P (i:Int)).First):∃S,plan_In k v L P=some (S,dB (InOK v L P))∧(InOK v L P→S=PlanSet.mk (PlaceHall.mk v (usL v)) L (pmN P P.length)):=by
 have hb:=hv.b
 unfold plan_In
 rw[bindS (place_In_eq hv)]
 cases hm:mayB v
 ·refine⟨PlanSet.mk (PlaceHall.mk v []) L [],?_,fun h=>absurd (mayB_iff.2 h.1) (by rw[hm];simp)⟩
  rw[dB_F (fun h=>by rw[mayB_iff.2 h.1] at hm;cases hm)]
  rfl
 have hM:=mayB_iff.1 hm
 rw[cNT,bindS (party_All_eq hL hb),bindS rfl,cond_true]
 rcases Classical.em (¬AllMay L) with hA | hA
 ·refine⟨PlanSet.mk (PlaceHall.mk v (usL v)) L [],?_,fun h=>absurd h.2.2 hA⟩
  rw[dB_F hA,cNF,dB_F (fun h=>hA h.2.2)]
 have hA:=Classical.not_not.1 hA
 rw[dB_T hA,cNT]
 have h3:∀(i:Nat) (w:List (Int×Int)),i < P.length→PinG v L P i∨(0≤(aI P (i:Int)).Party∧(aI P (i:Int)).Party < L.length∧plB v (aI L (aI P (i:Int)).Party) (aI P (i:Int)).First=true)→(∀j,j < i→PinG v L P j)→plan_In_l3 k L (PlaceHall.mk v (usL v),true) w (aI P (i:Int)) ((P.drop 0).take i) k 0=some (if dB (∀j:Nat,j < i→aptB v (aI L (aI P (i:Int)).Party) (aI P (i:Int)).First (aI L (aI P (j:Int)).Party) (aI P (j:Int)).First=true)=true then .go () else .rt (PlanSet.mk (PlaceHall.mk v (usL v)) L w,false)):=fun i w hi h1 hG=>by
  have h1:0≤(aI P (i:Int)).Party∧(aI P (i:Int)).Party < L.length∧plB v (aI L (aI P (i:Int)).Party) (aI P (i:Int)).First=true:=by
   rcases h1 with h | h
   ·exact⟨h.lo,h.hi,h.pl⟩
   ·exact h
  have hl:((P.drop 0).take i).length=i:=by rw[List.drop_zero,List.length_take];omega
  have hx:∀j:Nat,j < i→idx ((P.drop 0).take i) (j:Int)=some (aI P (j:Int)):=fun j hj=>by
   refine idx_get (by omega) ?_
   rw[Int.toNat_natCast,List.drop_zero,List.getElem?_take_of_lt hj]
   unfold aI
   rw[Int.toNat_natCast,List.getD_eq_getElem?_getD,List.getElem?_eq_getElem (by omega)]
   rfl
  exact scanB (F:=fun n j=>plan_In_l3 k L (PlaceHall.mk v (usL v),true) w (aI P (i:Int)) ((P.drop 0).take i) n (j:Int)) (len:=i) (k:=k) (fun j=>aptB v (aI L (aI P (i:Int)).Party) (aI P (i:Int)).First (aI L (aI P (j:Int)).Party) (aI P (j:Int)).First=true) (t:=()) (r:=(PlanSet.mk (PlaceHall.mk v (usL v)) L w,false))
   (fun n j hj _ hg=>by
    have hGj:=hG j hj
    rw[plan_In_l3,condD (by omega),bindS (hx j hj),bindS (idx_aI h1.1 h1.2.1),bindS (idx_aI hGj.lo hGj.hi),bindS (hall_Apart hv hM hk h1.2.2 hGj.pl),hg,cNT,wr_succ (by omega)])
   (fun n j hj _ hg=>by
    have hGj:=hG j hj
    rw[plan_In_l3,condD (by omega),bindS (hx j hj),bindS (idx_aI h1.1 h1.2.1),bindS (idx_aI hGj.lo hGj.hi),bindS (hall_Apart hv hM hk h1.2.2 hGj.pl),Bool.eq_false_iff.2 hg,cNF])
   (fun n _=>by
    rw[plan_In_l3,condN (by omega)]) (by omega)
 have step:∀(n i:Nat) (w:List (Int×Int)),i < P.length→(∀j,j < i→PinG v L P j)→plan_In_l2 k L P (PlaceHall.mk v (usL v),true) (n+1) w (i:Int)=if dB (PinG v L P i)=true then plan_In_l2 k L P (PlaceHall.mk v (usL v),true) n (mset w (aI P (i:Int)).Party (aI P (i:Int)).First) ((i+1:Nat):Int) else some (.rt (PlanSet.mk (PlaceHall.mk v (usL v)) L w,false)):=fun n i w hi hG=>by
  rw[plan_In_l2,condD (by omega),bindS (idx_aI (by omega) (by omega))]
  have key:(0 < i→(aI P ((i-1:Nat):Int)).Party < (aI P (i:Int)).Party)→∀(X:Option (Ex (List (Int×Int)) (PlanSet×Bool))),
    (Option.bind (cond (decide ((aI P (i:Int)).Party < 0)) (some true) (some (decide ((L.length:Int)≤(aI P (i:Int)).Party)))) fun o154=>cond o154 (some (Ex.rt (PlanSet.mk (PlaceHall.mk v (usL v)) L w,false))) (Option.bind (idx L (aI P (i:Int)).Party) fun y175=>Option.bind (place_Hall_Seats k (PlaceHall.mk v (usL v)) y175 (aI P (i:Int)).First) fun r177=>cond (!r177.2) (some (Ex.rt (PlanSet.mk (PlaceHall.mk v (usL v)) L w,false))) (Option.bind (slc P 0 (i:Int)) fun y181=>Option.bind (plan_In_l3 k L (PlaceHall.mk v (usL v),true) w (aI P (i:Int)) y181 k 0) fun o204=>Ex.elim o204 (fun v207=>X) (fun rr=>some (Ex.rt rr)))))=if dB (PinG v L P i)=true then X else some (.rt (PlanSet.mk (PlaceHall.mk v (usL v)) L w,false)):=fun hr X=>by
   by_cases h1:(aI P (i:Int)).Party < 0
   ·rw[condD h1,bindS rfl,condT rfl,dB_F (fun h=>by have:=h.lo;omega),if_neg (by simp)]
   by_cases h2:(L.length:Int)≤(aI P (i:Int)).Party
   ·rw[condN h1,bindS rfl,condD h2,dB_F (fun h=>by have:=h.hi;omega),if_neg (by simp)]
   obtain⟨l,el⟩:=hall_Seats2 hv hM hk (aI L (aI P (i:Int)).Party) (ho i hi)
   rw[condN h1,bindS rfl,condN h2,bindS (idx_aI (l:=L) (by omega) (by omega)),bindS el]
   cases hp:plB v (aI L (aI P (i:Int)).Party) (aI P (i:Int)).First
   ·rw[cNF,dB_F (fun h=>by have:=h.pl;rw[hp] at this;cases this),if_neg (by simp)]
   ·have hs:slc P 0 (i:Int)=some ((P.drop 0).take i):=by
     rw[slc_eq ⟨by omega,by omega,by omega⟩,show(i:Int).toNat-(0:Int).toNat=i by omega]
     rfl
    rw[cNT,bindS hs,bindS (h3 i w hi (.inr ⟨by omega,by omega,hp⟩) hG)]
    rcases Classical.em (∀j:Nat,j < i→aptB v (aI L (aI P (i:Int)).Party) (aI P (i:Int)).First (aI L (aI P (j:Int)).Party) (aI P (j:Int)).First=true) with h | h
    ·rw[dB_T h,if_pos rfl,elim_go,dB_T ⟨by omega,by omega,hr,hp,h⟩,if_pos rfl]
    ·rw[dB_F h,if_neg (by simp),elim_rt,dB_F (fun x=>h x.ap),if_neg (by simp)]
  by_cases h0:0 < i
  ·rw[condD (by omega),wr_pred h0 (by omega),bindS (idx_aI (x:=((i-1:Nat):Int)) (by omega) (by omega))]
   by_cases h4:(aI P (i:Int)).Party≤(aI P ((i-1:Nat):Int)).Party
   ·rw[condD h4,bindS rfl,condT rfl,dB_F (fun h=>by have:=h.rise h0;omega),if_neg (by simp)]
   ·rw[condN h4,key (fun _=>by omega),wr_succ (by omega)]
  ·rw[condN (by omega),key (fun h=>absurd h h0),wr_succ (by omega)]
 have e:=scanF0 (F:=fun n i=>plan_In_l2 k L P (PlaceHall.mk v (usL v),true) n (pmN P i) (i:Int)) (len:=P.length) (k:=k) (fun i=>PinG v L P i) (t:=pmN P P.length) (fun i=>(PlanSet.mk (PlaceHall.mk v (usL v)) L (pmN P i),false))
  (fun n i hi hG hg=>by
   rw[step n i _ hi hG,dB_T hg,if_pos rfl,pmN])
  (fun n i hi hG hg=>by
   rw[step n i _ hi hG,dB_F hg,if_neg (by simp)])
  (fun n _=>by
   rw[plan_In_l2,condN (by omega)]) hP
 have e:plan_In_l2 k L P (PlaceHall.mk v (usL v),true) k [] 0=_:=e
 rw[bindS e]
 rcases Classical.em (PinOK v L P) with h | h
 ·rw[if_pos (fstF_all.2 h),elim_go,dB_T ⟨hM,h,hA⟩]
  exact⟨_,rfl,fun _=>rfl⟩
 ·rw[if_neg (fun x=>h (fstF_all.1 x)),elim_rt,dB_F (fun x=>h x.2.1)]
  exact⟨_,rfl,fun x=>absurd x.2.1 h⟩
/- plans -/
structure OkAt (v:Venue) (L:List Party) (P:List Pin) (r:List Int) (i:Nat):Prop where
 pin:∀f,pinAt P (i:Int)=some f→aI r (i:Int)=f
 pl:¬aI r (i:Int) = -1→plB v (aI L (i:Int)) (aI r (i:Int))=true
 ap:¬aI r (i:Int) = -1→∀j:Nat,j < i→¬aI r (j:Int) = -1→aptB v (aI L (i:Int)) (aI r (i:Int)) (aI L (j:Int)) (aI r (j:Int))=true
theorem plan_Set_wrong_eq (hv:Small k v) (hM:MayV v) (hk:1000 < k) {r:List Int} (hr:r.length≤L.length) {i:Nat} (hi:i < r.length) (hik:i < k) (hb:r.length≤4294967290) (ho:okI (aI r (i:Int))) (hG:∀j,j < i→OkAt v L P r j):plan_Set_wrong k (PlanSet.mk (PlaceHall.mk v (usL v)) L (pmN P P.length)) r (i:Int)=some (!dB (OkAt v L P r i)):=by
 unfold plan_Set_wrong
 have hpin:((∀f,pinAt P (i:Int)=some f→aI r (i:Int)=f)∧(cond ((mget (pmN P P.length) (i:Int)).isSome) (Option.bind (idx r (i:Int)) fun y8=>some (!decide (y8=((mget (pmN P P.length) (i:Int)).getD 0)))) (some false))=some false)∨((¬∀f,pinAt P (i:Int)=some f→aI r (i:Int)=f)∧(cond ((mget (pmN P P.length) (i:Int)).isSome) (Option.bind (idx r (i:Int)) fun y8=>some (!decide (y8=((mget (pmN P P.length) (i:Int)).getD 0)))) (some false))=some true):=by
  show _∨_
  unfold pinAt
  cases hp:mget (pmN P P.length) (i:Int) with
  | none=>exact .inl ⟨fun f h=>(by cases h),rfl⟩
  | some f =>
   rw[Option.isSome_some,cond_true,bindS (idx_aI (by omega) (by omega))]
   by_cases h:aI r (i:Int)=f
   ·exact .inl ⟨fun f' h'=>by cases h';exact h,by rw[Option.getD_some,decide_eq_true h];rfl⟩
   ·exact .inr ⟨fun h'=>h (h' f rfl),by rw[Option.getD_some,decide_eq_false h];rfl⟩
 rcases hpin with⟨h1,e1⟩ | ⟨h1,e1⟩
 ·rw[bindS e1,cond_false,bindS (idx_aI (by omega) (by omega))]
  by_cases h2:aI r (i:Int) = -1
  ·rw[condD h2,dB_T ⟨h1,fun h=>absurd h2 h,fun h=>absurd h2 h⟩]
   rfl
  ·obtain⟨l,el⟩:=hall_Seats2 hv hM hk (aI L (i:Int)) ho
   rw[condN h2,bindS (idx_aI (l:=L) (by omega) (by omega)),bindS (idx_aI (by omega) (by omega)),bindS el]
   cases hp:plB v (aI L (i:Int)) (aI r (i:Int))
   ·rw[cNF,dB_F (fun h=>by have:=h.pl h2;rw[hp] at this;cases this)]
    rfl
   ·have e:=scanB (F:=fun n j=>plan_Set_wrong_l0 k (PlanSet.mk (PlaceHall.mk v (usL v)) L (pmN P P.length)) r (i:Int) n (j:Int)) (len:=i) (k:=k) (fun j=>¬aI r (j:Int) = -1→aptB v (aI L (i:Int)) (aI r (i:Int)) (aI L (j:Int)) (aI r (j:Int))=true) (t:=()) (r:=true)
     (fun n j hj _ hg=>by
      rw[plan_Set_wrong_l0,condD (by omega),bindS (idx_aI (by omega) (by omega)),wr_succ (by omega)]
      by_cases hj1:aI r (j:Int) = -1
      ·rw[condNT hj1]
      ·rw[condNF hj1,bindS (idx_aI (l:=L) (by omega) (by omega)),bindS (idx_aI (by omega) (by omega)),bindS (idx_aI (l:=L) (by omega) (by omega)),bindS (idx_aI (by omega) (by omega)),bindS (hall_Apart hv hM hk hp ((hG j hj).pl hj1)),hg hj1,cNT])
     (fun n j hj _ hg=>by
      obtain⟨hj1,hj2⟩:=Classical.not_imp.1 hg
      rw[plan_Set_wrong_l0,condD (by omega),bindS (idx_aI (by omega) (by omega)),condNF hj1,bindS (idx_aI (l:=L) (by omega) (by omega)),bindS (idx_aI (by omega) (by omega)),bindS (idx_aI (l:=L) (by omega) (by omega)),bindS (idx_aI (by omega) (by omega)),bindS (hall_Apart hv hM hk hp ((hG j hj).pl hj1)),Bool.eq_false_iff.2 hj2,cNF])
     (fun n _=>by
      rw[plan_Set_wrong_l0,condN (by omega)]) hik
    have e:plan_Set_wrong_l0 k (PlanSet.mk (PlaceHall.mk v (usL v)) L (pmN P P.length)) r (i:Int) k 0=_:=e
    rw[cNT,bindS e]
    rcases Classical.em (∀j:Nat,j < i→¬aI r (j:Int) = -1→aptB v (aI L (i:Int)) (aI r (i:Int)) (aI L (j:Int)) (aI r (j:Int))=true) with h | h
    ·rw[dB_T h,if_pos rfl,elim_go,dB_T ⟨h1,fun _=>hp,fun _=>h⟩]
     rfl
    ·rw[dB_F h,if_neg (by simp),elim_rt,dB_F (fun x=>h (x.ap h2))]
     rfl
 ·rw[bindS e1,cond_true,dB_F (fun h=>h1 h.pin)]
  rfl
noncomputable def badI (v:Venue) (L:List Party) (P:List Pin) (r:List Int):Int:=fstF (OkAt v L P r) r.length 0
theorem elim_fst {n:Nat} {g:Nat→Prop} : (Ex.elim (if fstF g n 0 = -1 then (Ex.go ():Ex Unit Int) else .rt (((fstF g n 0).toNat:Nat):Int)) (fun _=>some (-1:Int)) (fun rr=>some rr))=some (fstF g n 0):=by
 by_cases h:fstF g n 0 = -1
 ·rw[if_pos h,elim_go,h]
 ·rw[if_neg h,elim_rt]
  have:∀d i:Nat,-1≤fstF g d i:=by
   intro d
   induction d with
   | zero=>intro i;rw[fstF];omega
   | succ d ih =>
    intro i
    rw[fstF]
    split
    ·exact ih _
    ·omega
  have:=this n 0
  congr 1
  omega
theorem plan_Set_First_eq (hv:Small k v) (hM:MayV v) (hk:1000 < k) {r:List Int} (hr:r.length≤L.length) (hrk:r.length < k) (ho:∀i:Nat,i < r.length→okI (aI r (i:Int))):plan_Set_First k (PlanSet.mk (PlaceHall.mk v (usL v)) L (pmN P P.length)) r=some (badI v L P r):=by
 have hb:=hv.b
 unfold plan_Set_First badI
 have e:=scanF0 (F:=fun n i=>plan_Set_First_l0 k (PlanSet.mk (PlaceHall.mk v (usL v)) L (pmN P P.length)) r n (i:Int)) (len:=r.length) (k:=k) (OkAt v L P r) (t:=()) (fun i=>(i:Int))
  (fun n i hi hG hg=>by
   rw[plan_Set_First_l0,condD (by omega),bindS (plan_Set_wrong_eq hv hM hk hr hi (by omega) (by omega) (ho i hi) hG),dB_T hg,wr_succ (by omega)]
   rfl)
  (fun n i hi hG hg=>by
   rw[plan_Set_First_l0,condD (by omega),bindS (plan_Set_wrong_eq hv hM hk hr hi (by omega) (by omega) (ho i hi) hG),dB_F hg]
   rfl)
  (fun n _=>by
   rw[plan_Set_First_l0,condN (by omega)]) hrk
 have e:plan_Set_First_l0 k (PlanSet.mk (PlaceHall.mk v (usL v)) L (pmN P P.length)) r k 0=_:=e
 rw[bindS e,elim_fst]
theorem ref6_Hall_wrong_eq (hv:Small k v) (hM:MayV v) (hk:1000 < k) (hPk:P.length < k) (hP:RiseP P) {r:List Int} (hr:r.length≤L.length) (hrk:r.length < k):ref6_Hall_wrong k (Ref6Hall.mk v (usL v)) L r P=some (badI v L P r):=by
 have hb:=hv.b
 unfold ref6_Hall_wrong badI
 have step:∀n i:Nat,i < r.length→ref6_Hall_wrong_l2 k (Ref6Hall.mk v (usL v)) L r P (n+1) (i:Int)=if dB (OkAt v L P r i)=true then ref6_Hall_wrong_l2 k (Ref6Hall.mk v (usL v)) L r P n ((i+1:Nat):Int) else some (.rt (i:Int)):=fun n i hi=>by
  have h3:¬aI r (i:Int) = -1→ref6_Hall_wrong_l3 k (Ref6Hall.mk v (usL v)) L r (i:Int) k 0=some (if dB (∀j:Nat,j < i→¬aI r (j:Int) = -1→aptB v (aI L (i:Int)) (aI r (i:Int)) (aI L (j:Int)) (aI r (j:Int))=true)=true then .go () else .rt (i:Int)):=fun h2 =>
   scanB (F:=fun n j=>ref6_Hall_wrong_l3 k (Ref6Hall.mk v (usL v)) L r (i:Int) n (j:Int)) (len:=i) (k:=k) (fun j=>¬aI r (j:Int) = -1→aptB v (aI L (i:Int)) (aI r (i:Int)) (aI L (j:Int)) (aI r (j:Int))=true) (t:=()) (r:=(i:Int))
     (fun n j hj _ hg=>by
      rw[ref6_Hall_wrong_l3,condD (by omega),bindS (idx_aI (by omega) (by omega)),condNF h2,bindS (idx_aI (by omega) (by omega)),wr_succ (by omega)]
      by_cases hj1:aI r (j:Int) = -1
      ·rw[condNT hj1]
      ·rw[condNF hj1,bindS (idx_aI (l:=L) (by omega) (by omega)),bindS (idx_aI (by omega) (by omega)),bindS (idx_aI (l:=L) (by omega) (by omega)),bindS (idx_aI (by omega) (by omega)),bindS (rhall_Apart hv hM hk _ _ _ _),hg hj1,cNT])
     (fun n j hj _ hg=>by
      obtain⟨hj1,hj2⟩:=Classical.not_imp.1 hg
      rw[ref6_Hall_wrong_l3,condD (by omega),bindS (idx_aI (by omega) (by omega)),condNF h2,bindS (idx_aI (by omega) (by omega)),condNF hj1,bindS (idx_aI (l:=L) (by omega) (by omega)),bindS (idx_aI (by omega) (by omega)),bindS (idx_aI (l:=L) (by omega) (by omega)),bindS (idx_aI (by omega) (by omega)),bindS (rhall_Apart hv hM hk _ _ _ _),Bool.eq_false_iff.2 hj2,cNF])
     (fun n _=>by
      rw[ref6_Hall_wrong_l3,condN (by omega)]) (by omega)
  have h3':aI r (i:Int) = -1→ref6_Hall_wrong_l3 k (Ref6Hall.mk v (usL v)) L r (i:Int) k 0=some (.go ()):=fun h2=>by
   have:=scanB (F:=fun n j=>ref6_Hall_wrong_l3 k (Ref6Hall.mk v (usL v)) L r (i:Int) n (j:Int)) (len:=i) (k:=k) (fun j=>True) (t:=()) (r:=(i:Int))
     (fun n j hj _ hg=>by
      rw[ref6_Hall_wrong_l3,condD (by omega),bindS (idx_aI (by omega) (by omega)),condNT h2,wr_succ (by omega)])
     (fun n j hj _ hg=>absurd trivial hg)
     (fun n _=>by
      rw[ref6_Hall_wrong_l3,condN (by omega)]) (by omega)
   rw[dB_T (fun _ _=>trivial),if_pos rfl] at this
   exact this
  have hpin:((∀f,pinAt P (i:Int)=some f→aI r (i:Int)=f)∧(cond ((pinAt P (i:Int)).isSome) (Option.bind (idx r (i:Int)) fun y8=>some (!decide (y8=((pinAt P (i:Int)).getD (-1))))) (some false))=some false)∨((¬∀f,pinAt P (i:Int)=some f→aI r (i:Int)=f)∧(cond ((pinAt P (i:Int)).isSome) (Option.bind (idx r (i:Int)) fun y8=>some (!decide (y8=((pinAt P (i:Int)).getD (-1))))) (some false))=some true):=by
   cases hp:pinAt P (i:Int) with
   | none=>exact .inl ⟨fun f h=>(by cases h),rfl⟩
   | some f =>
    rw[Option.isSome_some,cond_true,bindS (idx_aI (by omega) (by omega))]
    by_cases h:aI r (i:Int)=f
    ·exact .inl ⟨fun f' h'=>by cases h';exact h,by rw[Option.getD_some,decide_eq_true h];rfl⟩
    ·exact .inr ⟨fun h'=>h (h' f rfl),by rw[Option.getD_some,decide_eq_false h];rfl⟩
  rw[ref6_Hall_wrong_l2,condD (by omega),bindS (ref6_pinned_eq hP hPk hb _),bindS (idx_aI (l:=r) (by omega) (by omega)),wr_succ (by omega)]
  by_cases h2:aI r (i:Int) = -1
  ·rw[condNT h2]
   rcases hpin with⟨h1,e1⟩ | ⟨h1,e1⟩
   ·rw[bindS e1,cond_false,bindS (h3' h2),elim_go,dB_T ⟨h1,fun h=>absurd h2 h,fun h=>absurd h2 h⟩,if_pos rfl]
   ·rw[bindS e1,cond_true,dB_F (fun h=>h1 h.pin),if_neg (by simp)]
  ·rw[condNF h2,bindS (idx_aI (l:=L) (by omega) (by omega)),bindS (idx_aI (l:=r) (by omega) (by omega)),bindS (rhall_May hv hM hk _ _)]
   cases hp:plB v (aI L (i:Int)) (aI r (i:Int))
   ·rw[cNF,bindS rfl,cond_true,dB_F (fun h=>by have:=h.pl h2;rw[hp] at this;cases this),if_neg (by simp)]
   ·rw[cNT]
    rcases hpin with⟨h1,e1⟩ | ⟨h1,e1⟩
    ·rw[bindS e1,cond_false,bindS (h3 h2)]
     rcases Classical.em (∀j:Nat,j < i→¬aI r (j:Int) = -1→aptB v (aI L (i:Int)) (aI r (i:Int)) (aI L (j:Int)) (aI r (j:Int))=true) with h | h
     ·rw[dB_T h,if_pos rfl,elim_go,dB_T ⟨h1,fun _=>hp,fun _=>h⟩,if_pos rfl]
     ·rw[dB_F h,if_neg (by simp),elim_rt,dB_F (fun x=>h (x.ap h2)),if_neg (by simp)]
    ·rw[bindS e1,cond_true,dB_F (fun h=>h1 h.pin),if_neg (by simp)]
 have e:=scanF0 (F:=fun n i=>ref6_Hall_wrong_l2 k (Ref6Hall.mk v (usL v)) L r P n (i:Int)) (len:=r.length) (k:=k) (OkAt v L P r) (t:=()) (fun i=>(i:Int))
  (fun n i hi hG hg=>by
   rw[step n i hi,dB_T hg,if_pos rfl])
  (fun n i hi hG hg=>by
   rw[step n i hi,dB_F hg,if_neg (by simp)])
  (fun n _=>by
   rw[ref6_Hall_wrong_l2,condN (by omega)]) hrk
 have e:ref6_Hall_wrong_l2 k (Ref6Hall.mk v (usL v)) L r P k 0=_:=e
 rw[bindS e,elim_fst]
open Classical in
noncomputable def wrongV (v:Venue) (L:List Party) (P:List Pin) (r:List Int):Int:=if InOK v L P∧r.length=L.length then badI v L P r else L.length
theorem plan_Wrong_eq (hv:Small k v) (hk:1000 < k) (hL:L.length < k) (hP:P.length < k) (ho:∀i:Nat,i < P.length→okI (aI P (i:Int)).First) {r:List Int} (hr:∀i:Nat,i < r.length→okI (aI r (i:Int))):plan_Wrong k v L r P=some (wrongV v L P r):=by
 unfold plan_Wrong wrongV
 obtain⟨S,e,hS⟩:=plan_In_eq hv hk hL hP ho
 rw[bindS e]
 rcases Classical.em (InOK v L P) with h | h
 ·rw[dB_T h,cNT]
  by_cases hl:(r.length:Int)=L.length
  ·rw[condNT hl,bindS rfl,elim_go,hS h,if_pos ⟨h,by omega⟩,bindS (plan_Set_First_eq hv h.1 hk (by omega) (by omega) hr)]
  ·rw[condNF hl,bindS rfl,elim_rt,if_neg (fun x=>hl (by omega))]
 ·rw[dB_F h,cNF,bindS rfl,elim_rt,if_neg (fun x=>h x.1)]
theorem ref6_Wrong_eq (hv:Small k v) (hk:1000 < k) (hL:L.length < k) (hP:P.length < k) {r:List Int} : ref6_Wrong k v L r P=some (wrongV v L P r):=by
 unfold ref6_Wrong wrongV
 rw[bindS (ref6_NewHall_eq hv)]
 cases hm:mayB v
 ·rw[cond_false,optc_none,if_neg (fun h=>by rw[mayB_iff.2 h.1.1] at hm;cases hm)]
 have hM:=mayB_iff.1 hm
 rw[cond_true,optc_some,bindS (ref6_Hall_Pins_eq hv hM hk hL hP)]
 rcases Classical.em (PinOK v L P∧AllMay L) with h | h
 ·rw[dB_T h,cNT]
  by_cases hl:(r.length:Int)=L.length
  ·rw[condNT hl,if_pos ⟨⟨hM,h⟩,by omega⟩,bindS (ref6_Hall_wrong_eq hv hM hk hP h.1.rise (by omega) (by omega))]
  ·rw[condNF hl,if_neg (fun x=>hl (by omega))]
 ·rw[dB_F h,cNF,if_neg (fun x=>h x.1.2)]
structure PlanP (v:Venue) (L:List Party) (P:List Pin) (r:List Int):Prop where
 inn:InOK v L P
 len:r.length=L.length
 at_:∀i,i < r.length→OkAt v L P r i
theorem wrongV_iff {r:List Int} : wrongV v L P r = -1 ↔ PlanP v L P r:=by
 unfold wrongV
 split
 ·rename_i h
  unfold badI
  rw[fstF_all]
  exact⟨fun x=>⟨h.1,h.2,x⟩,fun x=>x.at_⟩
 ·rename_i h
  exact⟨fun x=>by omega,fun x=>absurd ⟨x.inn,x.len⟩ h⟩
theorem plan_May_eq (hv:Small k v) (hk:1000 < k) (hL:L.length < k) (hP:P.length < k) (ho:∀i:Nat,i < P.length→okI (aI P (i:Int)).First) {r:List Int} (hr:∀i:Nat,i < r.length→okI (aI r (i:Int))):plan_May k v L r P=some (dB (PlanP v L P r)):=by
 unfold plan_May
 rw[bindS (plan_Wrong_eq hv hk hL hP ho hr)]
 rcases Classical.em (PlanP v L P r) with h | h
 ·rw[dB_T h,decide_eq_true (wrongV_iff.2 h)]
 ·rw[dB_F h,decide_eq_false (fun x=>h (wrongV_iff.1 x))]
theorem ref6_MayPlan_eq (hv:Small k v) (hk:1000 < k) (hL:L.length < k) (hP:P.length < k) {r:List Int} : ref6_MayPlan k v L r P=some (dB (PlanP v L P r)):=by
 unfold ref6_MayPlan
 rw[bindS (ref6_Wrong_eq hv hk hL hP)]
 rcases Classical.em (PlanP v L P r) with h | h
 ·rw[dB_T h,decide_eq_true (wrongV_iff.2 h)]
 ·rw[dB_F h,decide_eq_false (fun x=>h (wrongV_iff.1 x))]
theorem plan_Pins_eq (hv:Small k v) (hk:1000 < k) (hL:L.length < k) (hP:P.length < k) (ho:∀i:Nat,i < P.length→okI (aI P (i:Int)).First):plan_Pins k v L P=some (dB (InOK v L P)):=by
 obtain⟨S,e,_⟩:=plan_In_eq hv hk hL hP ho
 unfold plan_Pins
 rw[bindS e]
end
end Go.Px
