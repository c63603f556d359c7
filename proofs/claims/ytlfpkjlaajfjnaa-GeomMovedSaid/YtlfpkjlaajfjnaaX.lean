/- The functions of this seat's laws as plain Lean functions (no memory and no Go in them). -/
import Derived.Test.YtlfpkjlaajfjnaaShU
set_option linter.unusedVariables false
set_option maxHeartbeats 4000000
set_option linter.unusedSimpArgs false
set_option maxRecDepth 100000
namespace Go.Px
open Go Go.Sh
structure Seat where
  Row:Int
  X:Int
  Y:Int
  Kind:Int
deriving DecidableEq,Inhabited
structure Pole where
  X:Int
  Y:Int
  R:Int
deriving DecidableEq,Inhabited
structure Party where
  Size:Int
  Wheels:Int
deriving DecidableEq,Inhabited
structure Pin where
  Party:Int
  First:Int
deriving DecidableEq,Inhabited
structure Venue where
  Seats:(List Seat)
  Gap:Int
  Radius:Int
  Kills:(List Int)
  Poles:(List Pole)
deriving DecidableEq,Inhabited
structure PlaceHall where
  V:Venue
  usable:(List Bool)
deriving DecidableEq,Inhabited
structure Ref6Hall where
  V:Venue
  U:(List Bool)
deriving DecidableEq,Inhabited
structure PlanSet where
  H:PlaceHall
  L:(List Party)
  Pins:(List (Int×Int))
deriving DecidableEq,Inhabited
structure BoundState where
  V:Venue
  L:(List Party)
  Pins:(List Pin)
  Plan:(List Int)
deriving DecidableEq,Inhabited
def eSeat (x:Seat):SV := .agg [.v (.int .i64 x.Row),.v (.int .i64 x.X),.v (.int .i64 x.Y),.v (.int .i64 x.Kind)]
theorem enc_Seat:Enc eSeat 4:=⟨fun a=>⟨rfl,rfl,rfl⟩⟩
theorem fl_Seat:∀a,∀y,y ∈ (eSeat a).cells→flat1 y=true:=fl_of fun a=>rfl
def eI (x:Int):SV := .v (.int .i64 x)
theorem enc_I:Enc eI 1:=⟨fun a=>⟨rfl,rfl,rfl⟩⟩
theorem fl_I:∀a,∀y,y ∈ (eI a).cells→flat1 y=true:=fl_of fun a=>rfl
def ePole (x:Pole):SV := .agg [.v (.int .i64 x.X),.v (.int .i64 x.Y),.v (.int .i64 x.R)]
theorem enc_Pole:Enc ePole 3:=⟨fun a=>⟨rfl,rfl,rfl⟩⟩
theorem fl_Pole:∀a,∀y,y ∈ (ePole a).cells→flat1 y=true:=fl_of fun a=>rfl
def eLI (x:(List Int)):SV := .lst (List.map eI x)
theorem enc_LI:Enc eLI 1:=⟨fun a=>⟨rfl,rfl,rfl⟩⟩
abbrev cVenue (x:Venue):List SV:=[.lst (List.map eSeat x.Seats),.v (.int .i64 x.Gap),.v (.int .i64 x.Radius),.lst (List.map eI x.Kills),.lst (List.map ePole x.Poles)]
abbrev cSeat (x:Seat):List SV:=[.v (.int .i64 x.Row),.v (.int .i64 x.X),.v (.int .i64 x.Y),.v (.int .i64 x.Kind)]
abbrev cPole (x:Pole):List SV:=[.v (.int .i64 x.X),.v (.int .i64 x.Y),.v (.int .i64 x.R)]
def okI (x:Int):Prop := -9223372036854775808≤x∧x≤9223372036854775807
def okLI (x:(List Int)):Prop:=x.length≤maxLen∧∀y,y ∈ x→okI y
def venue_in (k:Nat) (a0:Int) (a1:Int) (a2:Int):Option (Bool) :=
  cond (a1≤a0) (some (decide (a0≤a2))) (some false)
def venue_Row (k:Nat) (a0:Int):Option (Bool) :=
  Option.bind (venue_in k a0 0 999) fun r1=>some r1
def venue_Coord (k:Nat) (a0:Int):Option (Bool) :=
  Option.bind (venue_in k a0 (-1048576) 1048576) fun r1=>some r1
def venue_seat (k:Nat) (a0:Seat):Option (Bool) :=
  cond (a0.Kind=0) (Option.bind (venue_Row k a0.Row) fun r2=>cond r2 (Option.bind (venue_Coord k a0.X) fun r5=>cond r5 (Option.bind (venue_Coord k a0.Y) fun r8=>some r8) (some false)) (some false)) (cond (a0.Kind=1) (Option.bind (venue_Row k a0.Row) fun r11=>cond r11 (Option.bind (venue_Coord k a0.X) fun r14=>cond r14 (Option.bind (venue_Coord k a0.Y) fun r17=>some r17) (some false)) (some false)) (cond (a0.Kind=2) (Option.bind (venue_Row k a0.Row) fun r20=>cond r20 (Option.bind (venue_Coord k a0.X) fun r23=>cond r23 (Option.bind (venue_Coord k a0.Y) fun r26=>some r26) (some false)) (some false)) (some false)))
def venue_Less (k:Nat) (a0:Seat) (a1:Seat):Option (Bool) :=
  cond (a0.Row < a1.Row) (some true) (cond (a0.Row=a1.Row) (some (decide (a0.X < a1.X))) (some false))
def venue_seats_l0 (k:Nat) (a0:(List Seat)):Nat→Int→Option (Ex (Unit) (Bool))
  | 0,_=>none
  | n+1,v30=>cond (v30 < (a0.length:Int)) (Option.bind (idx a0 v30) fun y32=>Option.bind (venue_seat k y32) fun r42=>cond (!r42) (some (Ex.rt false)) (cond (0 < v30) (Option.bind (idx a0 (wr (v30-1))) fun y47=>Option.bind (venue_Less k y47 y32) fun r49=>cond (!r49) (some (Ex.rt false)) (venue_seats_l0 k a0 n (wr (v30+1)))) (venue_seats_l0 k a0 n (wr (v30+1))))) (some (Ex.go ()))
def venue_seats (k:Nat) (a0:(List Seat)):Option (Bool) :=
  Option.bind (venue_seats_l0 k a0 k 0) fun o26=>Ex.elim o26 (fun v29=>cond (0 < (a0.length:Int)) (some (decide ((a0.length:Int)≤4096))) (some false)) (fun rr=>some rr)
def venue_Reach (k:Nat) (a0:Int):Option (Bool) :=
  Option.bind (venue_in k a0 1 1048576) fun r1=>some r1
def venue_kills_l0 (k:Nat) (a0:(List Int)) (a1:Int):Nat→Int→Option (Ex (Unit) (Bool))
  | 0,_=>none
  | n+1,v24=>cond (v24 < (a0.length:Int)) (Option.bind (idx a0 v24) fun y26=>cond (y26 < 0) (some (Ex.rt false)) (cond (a1≤y26) (some (Ex.rt false)) (cond (0 < v24) (Option.bind (idx a0 (wr (v24-1))) fun y33=>cond (y26≤y33) (some (Ex.rt false)) (venue_kills_l0 k a0 a1 n (wr (v24+1)))) (venue_kills_l0 k a0 a1 n (wr (v24+1)))))) (some (Ex.go ()))
def venue_kills (k:Nat) (a0:(List Int)) (a1:Int):Option (Bool) :=
  Option.bind (venue_kills_l0 k a0 a1 k 0) fun o20=>Ex.elim o20 (fun v23=>some (decide ((a0.length:Int)≤200))) (fun rr=>some rr)
def venue_poles_l0 (k:Nat) (a0:(List Pole)):Nat→Int→Option (Ex (Unit) (Bool))
  | 0,_=>none
  | n+1,v30=>cond (v30 < (a0.length:Int)) (Option.bind (idx a0 v30) fun y32=>Option.bind (venue_Coord k y32.X) fun r34=>cond (!r34) (some (Ex.rt false)) (Option.bind (venue_Coord k y32.Y) fun r38=>cond (!r38) (some (Ex.rt false)) (Option.bind (venue_Reach k y32.R) fun r42=>cond (!r42) (some (Ex.rt false)) (venue_poles_l0 k a0 n (wr (v30+1)))))) (some (Ex.go ()))
def venue_poles (k:Nat) (a0:(List Pole)):Option (Bool) :=
  Option.bind (venue_poles_l0 k a0 k 0) fun o26=>Ex.elim o26 (fun v29=>some (decide ((a0.length:Int)≤200))) (fun rr=>some rr)
def venue_Wrong (k:Nat) (a0:Venue):Option (ByteArray) :=
  Option.bind (venue_seats k a0.Seats) fun r1=>cond (!r1) (some (⟨#[115,101,97,116,115]⟩:ByteArray)) (Option.bind (venue_Reach k a0.Gap) fun r4=>cond (!r4) (some (⟨#[103,97,112]⟩:ByteArray)) (Option.bind (venue_in k a0.Radius 0 1048576) fun r7=>cond (!r7) (some (⟨#[114,97,100,105,117,115]⟩:ByteArray)) (Option.bind (venue_kills k a0.Kills (a0.Seats.length:Int)) fun r10=>cond (!r10) (some (⟨#[107,105,108,108,115]⟩:ByteArray)) (Option.bind (venue_poles k a0.Poles) fun r13=>cond (!r13) (some (⟨#[112,111,108,101,115]⟩:ByteArray)) (some (⟨#[]⟩:ByteArray))))))
def venue_May (k:Nat) (a0:Venue):Option (Bool) :=
  Option.bind (venue_Wrong k a0) fun r1=>some (r1 == (⟨#[]⟩:ByteArray))
def geom_Far_l0 (k:Nat) (a0:Seat) (a1:Seat):Nat→Int→Option (Ex (Unit) (Int))
  | 0,_=>none
  | n+1,v24=>cond (v24 < (([a0,a1]).length:Int)) (Option.bind (idx [a0,a1] v24) fun y26=>Option.bind (venue_Coord k y26.X) fun r28=>cond (!r28) (some (Ex.rt 0)) (Option.bind (venue_Coord k y26.Y) fun r32=>cond (!r32) (some (Ex.rt 0)) (geom_Far_l0 k a0 a1 n (wr (v24+1))))) (some (Ex.go ()))
def geom_Far (k:Nat) (a0:Seat) (a1:Seat):Option (Int) :=
  Option.bind (geom_Far_l0 k a0 a1 k 0) fun o20=>Ex.elim o20 (fun v23=>some (wr ((wr ((wr (a0.X-a1.X)) * (wr (a0.X-a1.X))))+(wr ((wr (a0.Y-a1.Y)) * (wr (a0.Y-a1.Y))))))) (fun rr=>some rr)
def geom_Close (k:Nat) (a0:Seat) (a1:Seat) (a2:Int):Option (Bool) :=
  Option.bind (geom_Far k a0 a1) fun r1=>some (decide (r1 < (wr (a2 * a2))))
def geom_Graph_l1 (k:Nat) (a0:Venue) (a:Int) (y:Seat):Nat→(List Int)→Int→Option ((List Int))
  | 0,_,_=>none
  | n+1,v,b=>cond (b < (a0.Seats.length:Int)) (Option.bind (idx a0.Seats b) fun y2=>Option.bind (cond (!decide (a=b)) (Option.bind (geom_Close k y y2 a0.Radius) fun r=>some r) (some false)) fun o=>cond o (gd (v.length+([b]).length≤4294967296) (geom_Graph_l1 k a0 a y n (v++[b]) (wr (b+1)))) (geom_Graph_l1 k a0 a y n v (wr (b+1)))) (some v)
def geom_Graph_l0 (k:Nat) (a0:Venue):Nat→(List (List Int))→Int→Option ((List (List Int)))
  | 0,_,_=>none
  | n+1,rows,a=>cond (a < (a0.Seats.length:Int)) (Option.bind (idx a0.Seats a) fun y=>Option.bind (geom_Graph_l1 k a0 a y k [] 0) fun cur=>geom_Graph_l0 k a0 n (rows++[cur]) (wr (a+1))) (some rows)
def geom_Graph (k:Nat) (a0:Venue):Option ((List (List Int))) :=
  Option.bind (venue_May k a0) fun r1=>cond (!r1) (some []) (gd (a0.Seats.length≤4294967296) (Option.bind (geom_Graph_l0 k a0 k [] 0) fun o=>some o))
def geom_Near_l0 (k:Nat) (a0:Venue) (a1:Int) (a2:Int) (a3:Int):Nat→(List Int)→Int→Option ((List Int))
  | 0,_,_=>none
  | n+1,v46,v47=>cond (v47 < (a0.Seats.length:Int)) (Option.bind (idx a0.Seats v47) fun y49=>Option.bind (geom_Close k y49 (Seat.mk 0 a1 a2 0) a3) fun r51=>cond r51 (gd (v46.length+([v47]).length≤4294967296) (geom_Near_l0 k a0 a1 a2 a3 n (v46++[v47]) (wr (v47+1)))) (geom_Near_l0 k a0 a1 a2 a3 n v46 (wr (v47+1)))) (some v46)
def geom_Near (k:Nat) (a0:Venue) (a1:Int) (a2:Int) (a3:Int):Option ((List Int)) :=
  Option.bind (Option.bind (venue_May k a0) fun r15=>cond (!r15) (some true) (Option.bind (venue_Coord k a1) fun r18=>cond (!r18) (some true) (Option.bind (venue_Coord k a2) fun r21=>cond (!r21) (some true) (Option.bind (venue_Reach k a3) fun r24=>some (!r24))))) fun o12=>cond o12 (some []) (Option.bind (geom_Near_l0 k a0 a1 a2 a3 k [] 0) fun o43=>some o43)
def geom_side (k:Nat) (a0:Venue) (a1:Int):Option (Bool) :=
  cond (a1 < 0) (some false) (cond ((a0.Seats.length:Int)≤a1) (some false) (some true))
def geom_Clash (k:Nat) (a0:Venue) (a1:Int) (a2:Int):Option (Bool) :=
  Option.bind (geom_side k a0 a1) fun r17=>cond r17 (Option.bind (geom_side k a0 a2) fun r20=>cond r20 (cond (!decide (a1=a2)) (Option.bind (venue_May k a0) fun r24=>cond r24 (Option.bind (idx a0.Seats a1) fun y27=>Option.bind (idx a0.Seats a2) fun y29=>Option.bind (geom_Close k y27 y29 a0.Radius) fun r31=>some r31) (some false)) (some false)) (some false)) (some false)
def law6_told (k:Nat)  : Option (Bool) :=
  Option.bind (geom_Graph k (Venue.mk [Seat.mk 0 0 0 0,Seat.mk 0 3 4 0,Seat.mk 0 4 0 0] 1 5 [] [])) fun r3=>Option.bind (geom_Near k (Venue.mk [Seat.mk 0 0 0 0,Seat.mk 0 3 4 0,Seat.mk 0 4 0 0] 1 5 [] []) 0 0 5) fun r5=>Option.bind (idx [Seat.mk 0 0 0 0,Seat.mk 0 3 4 0,Seat.mk 0 4 0 0] 0) fun y44=>Option.bind (idx [Seat.mk 0 0 0 0,Seat.mk 0 3 4 0,Seat.mk 0 4 0 0] 1) fun y46=>Option.bind (geom_Far k y44 y46) fun r48=>cond (r48=25) (Option.bind (geom_Clash k (Venue.mk [Seat.mk 0 0 0 0,Seat.mk 0 3 4 0,Seat.mk 0 4 0 0] 1 5 [] []) 0 1) fun r51=>cond (!r51) (Option.bind (geom_Clash k (Venue.mk [Seat.mk 0 0 0 0,Seat.mk 0 3 4 0,Seat.mk 0 4 0 0] 1 5 [] []) 0 2) fun r54=>cond r54 (Option.bind (geom_Clash k (Venue.mk [Seat.mk 0 0 0 0,Seat.mk 0 3 4 0,Seat.mk 0 4 0 0] 1 5 [] []) 0 0) fun r57=>cond (!r57) (Option.bind (geom_Clash k (Venue.mk [Seat.mk 0 0 0 0,Seat.mk 0 3 4 0,Seat.mk 0 4 0 0] 1 5 [] []) 0 9) fun r60=>cond (!r60) (cond ((r3.length:Int)=3) (Option.bind (idx r3 0) fun y64=>cond ((y64.length:Int)=1) (Option.bind (idx r3 0) fun y67=>Option.bind (idx y67 0) fun y69=>cond (y69=2) (cond ((r5.length:Int)=2) (Option.bind (idx r5 1) fun y73=>cond (y73=2) (Option.bind (geom_Far k (Seat.mk 0 1048577 0 0) (Seat.mk 0 0 0 0)) fun r76=>cond (r76=0) (Option.bind (geom_Graph k (Venue.mk [] 0 0 [] [])) fun r79=>some (decide ((r79.length:Int)=0))) (some false)) (some false)) (some false)) (some false)) (some false)) (some false)) (some false)) (some false)) (some false)) (some false)) (some false)
def ref6_seat (k:Nat) (a0:Venue) (a1:Int):Option (Bool) :=
  cond (0≤a1) (some (decide (a1 < (a0.Seats.length:Int)))) (some false)
def ref6_SameInts_l0 (k:Nat) (a0:(List Int)) (a1:(List Int)):Nat→Int→Option (Ex (Unit) (Bool))
  | 0,_=>none
  | n+1,v19=>cond (v19 < (a0.length:Int)) (Option.bind (idx a0 v19) fun y25=>Option.bind (idx a1 v19) fun y27=>cond (!decide (y25=y27)) (some (Ex.rt false)) (ref6_SameInts_l0 k a0 a1 n (wr (v19+1)))) (some (Ex.go ()))
def ref6_SameInts (k:Nat) (a0:(List Int)) (a1:(List Int)):Option (Bool) :=
  cond (!decide ((a0.length:Int)=(a1.length:Int))) (some false) (Option.bind (ref6_SameInts_l0 k a0 a1 k 0) fun o15=>Ex.elim o15 (fun v18=>some true) (fun rr=>some rr))
def law3_Make_l0 (k:Nat) (a0:(List Int)) (a1:Int):Nat→(List Seat)→Int→(List Int)→(List Pole)→Int→Int→Int→Option ((List Seat)×Int×(List Int)×(List Pole))
  | 0,_,_,_,_,_,_,_=>none
  | n+1,v91,v92,v93,v94,v95,v96,v97=>Option.bind (cond (v97 < (a0.length:Int)) (some (decide ((v91.length:Int) < a1))) (some false)) fun o99=>cond o99 (Option.bind (idx a0 v97) fun y104=>Option.bind (cond (((IntKind.u64.wrap y104).tmod 7)=0) (some (wr (v95+1),0)) (cond (((IntKind.u64.wrap y104).tmod 7)=1) (some (v95,wr ((wr (v96+10))+5))) (some (v95,wr (v96+10))))) fun o108=>Option.bind (cond (((IntKind.u64.wrap ((IntKind.u64.wrap y104).tdiv 7)).tmod 6)=0) (some 1) (cond (((IntKind.u64.wrap ((IntKind.u64.wrap y104).tdiv 7)).tmod 6)=1) (some 2) (cond (((IntKind.u64.wrap ((IntKind.u64.wrap y104).tdiv 7)).tmod 6)=2) (some 2) (some 0)))) fun o116=>gd (v91.length+([Seat.mk o108.1 o108.2 (wr (10 * o108.1)) o116]).length≤4294967296) (Option.bind (cond (((IntKind.u64.wrap ((IntKind.u64.wrap y104).tdiv 42)).tmod 9)=0) (gd (v93.length+([wr (((v91++[Seat.mk o108.1 o108.2 (wr (10 * o108.1)) o116]).length:Int)-1)]).length≤4294967296) (some (v93++[wr (((v91++[Seat.mk o108.1 o108.2 (wr (10 * o108.1)) o116]).length:Int)-1)]))) (some v93)) fun o125=>Option.bind (cond (((IntKind.u64.wrap ((IntKind.u64.wrap y104).tdiv 42)).tmod 11)=1) (gd (v94.length+([Pole.mk o108.2 (wr (10 * o108.1)) (wr (1+(wr ((IntKind.u64.wrap ((IntKind.u64.wrap y104).tdiv 500)).tmod 12))))]).length≤4294967296) (some (v94++[Pole.mk o108.2 (wr (10 * o108.1)) (wr (1+(wr ((IntKind.u64.wrap ((IntKind.u64.wrap y104).tdiv 500)).tmod 12))))]))) (some v94)) fun o132=>cond (((IntKind.u64.wrap ((IntKind.u64.wrap y104).tdiv 42)).tmod 5)=3) (law3_Make_l0 k a0 a1 n (v91++[Seat.mk o108.1 o108.2 (wr (10 * o108.1)) o116]) (wr ((IntKind.u64.wrap ((IntKind.u64.wrap y104).tdiv 300)).tmod 25)) o125 o132 o108.1 o108.2 (wr (v97+1))) (law3_Make_l0 k a0 a1 n (v91++[Seat.mk o108.1 o108.2 (wr (10 * o108.1)) o116]) v92 o125 o132 o108.1 o108.2 (wr (v97+1))))) (some (v91,v92,v93,v94))
def law3_Make (k:Nat) (a0:(List Int)) (a1:Int):Option (Venue) :=
  Option.bind (law3_Make_l0 k a0 a1 k [Seat.mk 0 0 0 0] 0 [] [] 0 0 0) fun o88=>some (Venue.mk o88.1 10 o88.2.1 o88.2.2.1 o88.2.2.2)
def law6_GeomMoved_l0 (k:Nat) (a1:Int) (a2:Int):Nat→(List Seat)→Int→Option ((List Seat))
  | 0,_,_=>none
  | n+1,v27,v28=>cond (v28 < (v27.length:Int)) (Option.bind (idx v27 v28) fun y38=>Option.bind (idx v27 v28) fun y40=>Option.bind (idx v27 v28) fun y42=>Option.bind (idx (v27.set v28.toNat (Seat.mk y42.Row (wr (y38.X+(wr ((IntKind.u64.wrap a1).tmod 1000)))) y42.Y y42.Kind)) v28) fun y44=>law6_GeomMoved_l0 k a1 a2 n ((v27.set v28.toNat (Seat.mk y42.Row (wr (y38.X+(wr ((IntKind.u64.wrap a1).tmod 1000)))) y42.Y y42.Kind)).set v28.toNat (Seat.mk y44.Row y44.X (wr (y40.Y-(wr ((IntKind.u64.wrap a2).tmod 1000)))) y44.Kind)) (wr (v28+1))) (some v27)
def law6_GeomMoved_l4 (k:Nat) (a3:Int) (r1:Venue) (r60:(List (List Int))) (v235:Int):Nat→Int→Option (Ex (Unit) (Bool))
  | 0,_=>none
  | n+1,v310=>Option.bind (idx r60 v235) fun y311=>cond (v310 < (y311.length:Int)) (Option.bind (idx r60 v235) fun y314=>Option.bind (idx y314 v310) fun y316=>cond (y316 < 0) (some (Ex.rt false)) (cond ((r60.length:Int)≤y316) (some (Ex.rt false)) (Option.bind (geom_Clash k r1 y316 v235) fun r324=>cond (!r324) (some (Ex.rt false)) (Option.bind (geom_Clash k (Venue.mk r1.Seats r1.Gap (wr (r1.Radius+(wr ((IntKind.u64.wrap a3).tmod 50)))) r1.Kills r1.Poles) v235 y316) fun r329=>cond (!r329) (some (Ex.rt false)) (law6_GeomMoved_l4 k a3 r1 r60 v235 n (wr (v310+1))))))) (some (Ex.go ()))
def law6_GeomMoved_l3 (k:Nat) (a3:Int) (r1:Venue) (r60:(List (List Int))) (r62:(List (List Int))) (r64:(List (List Int))):Nat→Int→Option (Ex (Unit) (Bool))
  | 0,_=>none
  | n+1,v235=>cond (v235 < (r60.length:Int)) (Option.bind (Option.bind (idx r60 v235) fun y262=>Option.bind (idx r62 v235) fun y264=>Option.bind (ref6_SameInts k y262 y264) fun r266=>cond (!r266) (some true) (Option.bind (idx r64 v235) fun y269=>Option.bind (idx r60 v235) fun y271=>some (decide ((y269.length:Int) < (y271.length:Int))))) fun o248=>cond o248 (some (Ex.rt false)) (Option.bind (law6_GeomMoved_l4 k a3 r1 r60 v235 k 0) fun o306=>Ex.elim o306 (fun v309=>law6_GeomMoved_l3 k a3 r1 r60 r62 r64 n (wr (v235+1))) (fun rr=>some (Ex.rt rr)))) (some (Ex.go ()))
def law6_GeomMoved (k:Nat) (a0:(List Int)) (a1:Int) (a2:Int) (a3:Int):Option (Bool) :=
  Option.bind (law3_Make k a0 20) fun r1=>gd ((([]:List Seat)).length+r1.Seats.length≤4294967296) (Option.bind (law6_GeomMoved_l0 k a1 a2 k (([]:List Seat)++r1.Seats) 0) fun o24=>Option.bind (geom_Graph k r1) fun r60=>Option.bind (geom_Graph k (Venue.mk o24 r1.Gap r1.Radius r1.Kills r1.Poles)) fun r62=>Option.bind (geom_Graph k (Venue.mk r1.Seats r1.Gap (wr (r1.Radius+(wr ((IntKind.u64.wrap a3).tmod 50)))) r1.Kills r1.Poles)) fun r64=>Option.bind (cond (!decide ((r60.length:Int)=(r1.Seats.length:Int))) (some true) (cond (!decide ((r62.length:Int)=(r60.length:Int))) (some true) (some (!decide ((r64.length:Int)=(r60.length:Int)))))) fun o68=>cond o68 (some false) (Option.bind (law6_GeomMoved_l3 k a3 r1 r60 r62 r64 k 0) fun o231=>Ex.elim o231 (fun v234=>Option.bind (law6_told k ) fun r334=>some r334) (fun rr=>some rr)))
def ref6_is (k:Nat) (a0:(List Bool)) (a1:Int):Option (Bool) :=
  cond (0≤a1) (cond (a1 < (a0.length:Int)) (Option.bind (idx a0 a1) fun y3=>some y3) (some false)) (some false)
def ref6_next (k:Nat) (a0:Venue) (a1:Int):Option (Bool) :=
  Option.bind (ref6_seat k a0 a1) fun r16=>cond r16 (Option.bind (ref6_seat k a0 (wr (a1+1))) fun r19=>cond r19 (Option.bind (idx a0.Seats a1) fun y22=>Option.bind (idx a0.Seats (wr (a1+1))) fun y24=>cond (y22.Row=y24.Row) (Option.bind (idx a0.Seats (wr (a1+1))) fun y27=>Option.bind (idx a0.Seats a1) fun y29=>some (decide ((wr (y27.X-y29.X))≤a0.Gap))) (some false)) (some false)) (some false)
def ref6_long_l0 (k:Nat) (a0:Venue) (a1:(List Bool)) (a2:Int):Nat→Int→Option (Int)
  | 0,_=>none
  | n+1,v31=>Option.bind (ref6_next k a0 (wr ((wr (a2+v31))-1))) fun r32=>cond r32 (Option.bind (ref6_is k a1 (wr (a2+v31))) fun r35=>cond r35 (ref6_long_l0 k a0 a1 a2 n (wr (v31+1))) (some v31)) (some v31)
def ref6_long (k:Nat) (a0:Venue) (a1:(List Bool)) (a2:Int):Option (Int) :=
  Option.bind (Option.bind (ref6_seat k a0 a2) fun r9=>cond (!r9) (some true) (Option.bind (ref6_is k a1 a2) fun r12=>some (!r12))) fun o6=>cond o6 (some 0) (Option.bind (ref6_long_l0 k a0 a1 a2 k 1) fun o28=>some o28)
end Go.Px
