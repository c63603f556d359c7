/- The functions of this seat's laws as plain Lean functions (no memory and no Go in them). -/
import Derived.Test.YtfgfckgbefnnaaaShU
set_option linter.unusedVariables false
set_option maxHeartbeats 4000000
set_option linter.unusedSimpArgs false
set_option maxRecDepth 100000
namespace Go.Px
open Go Go.Sh
structure Seat where
  Row:Int
  X:Int
  Y:Int
  Kind:Int
deriving DecidableEq,Inhabited
structure Pole where
  X:Int
  Y:Int
  R:Int
deriving DecidableEq,Inhabited
structure Party where
  Size:Int
  Wheels:Int
deriving DecidableEq,Inhabited
structure Pin where
  Party:Int
  First:Int
deriving DecidableEq,Inhabited
structure Law14Op where
  Kind:Int
  First:Int
deriving DecidableEq,Inhabited
structure SearchRow where
  l:(List Int)
  at_:Int
deriving DecidableEq,Inhabited
structure CertRow where
  l:(List Int)
  at_:Int
deriving DecidableEq,Inhabited
structure Venue where
  Seats:(List Seat)
  Gap:Int
  Radius:Int
  Kills:(List Int)
  Poles:(List Pole)
deriving DecidableEq,Inhabited
structure PlaceHall where
  V:Venue
  usable:(List Bool)
deriving DecidableEq,Inhabited
structure PlanSet where
  H:PlaceHall
  L:(List Party)
  Pins:(List (Int×Int))
deriving DecidableEq,Inhabited
structure PropProp where
  s:PlanSet
  levels:(List (List (List Int)))
  p:(List Int)
deriving DecidableEq,Inhabited
structure Ref6Hall where
  V:Venue
  U:(List Bool)
deriving DecidableEq,Inhabited
structure SearchResult where
  Answer:Int
  Plan:(List Int)
  Nodes:Int
  Tree:(List Bool)
deriving DecidableEq,Inhabited
structure SearchHunt where
  p:PropProp
  l:(List Party)
  r:SearchResult
  most:Int
  fuel:Int
  stack:(List SearchRow)
deriving DecidableEq,Inhabited
structure CertWalk where
  p:PropProp
  n:Int
  seats:Int
  t:(List Bool)
  taken:Int
  stack:(List CertRow)
deriving DecidableEq,Inhabited
def eSeat (x:Seat):SV := .agg [.v (.int .i64 x.Row),.v (.int .i64 x.X),.v (.int .i64 x.Y),.v (.int .i64 x.Kind)]
theorem enc_Seat:Enc eSeat 4:=⟨fun a=>⟨rfl,rfl,rfl⟩⟩
theorem fl_Seat:∀a,∀y,y ∈ (eSeat a).cells→flat1 y=true:=fl_of fun a=>rfl
def eI (x:Int):SV := .v (.int .i64 x)
theorem enc_I:Enc eI 1:=⟨fun a=>⟨rfl,rfl,rfl⟩⟩
theorem fl_I:∀a,∀y,y ∈ (eI a).cells→flat1 y=true:=fl_of fun a=>rfl
def ePole (x:Pole):SV := .agg [.v (.int .i64 x.X),.v (.int .i64 x.Y),.v (.int .i64 x.R)]
theorem enc_Pole:Enc ePole 3:=⟨fun a=>⟨rfl,rfl,rfl⟩⟩
theorem fl_Pole:∀a,∀y,y ∈ (ePole a).cells→flat1 y=true:=fl_of fun a=>rfl
def eParty (x:Party):SV := .agg [.v (.int .i64 x.Size),.v (.int .i64 x.Wheels)]
theorem enc_Party:Enc eParty 2:=⟨fun a=>⟨rfl,rfl,rfl⟩⟩
theorem fl_Party:∀a,∀y,y ∈ (eParty a).cells→flat1 y=true:=fl_of fun a=>rfl
def ePin (x:Pin):SV := .agg [.v (.int .i64 x.Party),.v (.int .i64 x.First)]
theorem enc_Pin:Enc ePin 2:=⟨fun a=>⟨rfl,rfl,rfl⟩⟩
def eB (x:Bool):SV := .v (.bool x)
theorem enc_B:Enc eB 1:=⟨fun a=>⟨rfl,rfl,rfl⟩⟩
theorem fl_B:∀a,∀y,y ∈ (eB a).cells→flat1 y=true:=fl_of fun a=>rfl
def eLI (x:(List Int)):SV := .lst (List.map eI x)
theorem enc_LI:Enc eLI 1:=⟨fun a=>⟨rfl,rfl,rfl⟩⟩
def eLLI (x:(List (List Int))):SV := .lst (List.map eLI x)
theorem enc_LLI:Enc eLLI 1:=⟨fun a=>⟨rfl,rfl,rfl⟩⟩
def eSearchRow (x:SearchRow):SV := .agg [.lst (List.map eI x.l),.v (.int .i64 x.at_)]
theorem enc_SearchRow:Enc eSearchRow 2:=⟨fun a=>⟨rfl,rfl,rfl⟩⟩
abbrev cPlanSet (x:PlanSet):List SV:=[.lst (List.map eSeat x.H.V.Seats),.v (.int .i64 x.H.V.Gap),.v (.int .i64 x.H.V.Radius),.lst (List.map eI x.H.V.Kills),.lst (List.map ePole x.H.V.Poles),.lst (List.map eB x.H.usable),.lst (List.map eParty x.L),.mp x.Pins]
abbrev cPr (x:PlanSet) (a b:SV):List SV:=[.lst (List.map eSeat x.H.V.Seats),.v (.int .i64 x.H.V.Gap),.v (.int .i64 x.H.V.Radius),.lst (List.map eI x.H.V.Kills),.lst (List.map ePole x.H.V.Poles),.lst (List.map eB x.H.usable),.lst (List.map eParty x.L),.mp x.Pins,a,b]
abbrev cPlaceHall (x:PlaceHall):List SV:=[.lst (List.map eSeat x.V.Seats),.v (.int .i64 x.V.Gap),.v (.int .i64 x.V.Radius),.lst (List.map eI x.V.Kills),.lst (List.map ePole x.V.Poles),.lst (List.map eB x.usable)]
abbrev cVenue (x:Venue):List SV:=[.lst (List.map eSeat x.Seats),.v (.int .i64 x.Gap),.v (.int .i64 x.Radius),.lst (List.map eI x.Kills),.lst (List.map ePole x.Poles)]
abbrev cSearchResult (x:SearchResult):List SV:=[.v (.int .i64 x.Answer),.lst (List.map eI x.Plan),.v (.int .i64 x.Nodes),.lst (List.map eB x.Tree)]
abbrev cSeat (x:Seat):List SV:=[.v (.int .i64 x.Row),.v (.int .i64 x.X),.v (.int .i64 x.Y),.v (.int .i64 x.Kind)]
abbrev cPole (x:Pole):List SV:=[.v (.int .i64 x.X),.v (.int .i64 x.Y),.v (.int .i64 x.R)]
abbrev cParty (x:Party):List SV:=[.v (.int .i64 x.Size),.v (.int .i64 x.Wheels)]
abbrev cPin (x:Pin):List SV:=[.v (.int .i64 x.Party),.v (.int .i64 x.First)]
def okI (x:Int):Prop := -9223372036854775808≤x∧x≤9223372036854775807
def okLI (x:(List Int)):Prop:=x.length≤maxLen∧∀y,y ∈ x→okI y
def venue_in (k:Nat) (a0:Int) (a1:Int) (a2:Int):Option (Bool) :=
  cond (a1≤a0) (some (decide (a0≤a2))) (some false)
def venue_Row (k:Nat) (a0:Int):Option (Bool) :=
  Option.bind (venue_in k a0 0 999) fun r1=>some r1
def venue_Coord (k:Nat) (a0:Int):Option (Bool) :=
  Option.bind (venue_in k a0 (-1048576) 1048576) fun r1=>some r1
def venue_seat (k:Nat) (a0:Seat):Option (Bool) :=
  cond (a0.Kind=0) (Option.bind (venue_Row k a0.Row) fun r2=>cond r2 (Option.bind (venue_Coord k a0.X) fun r5=>cond r5 (Option.bind (venue_Coord k a0.Y) fun r8=>some r8) (some false)) (some false)) (cond (a0.Kind=1) (Option.bind (venue_Row k a0.Row) fun r11=>cond r11 (Option.bind (venue_Coord k a0.X) fun r14=>cond r14 (Option.bind (venue_Coord k a0.Y) fun r17=>some r17) (some false)) (some false)) (cond (a0.Kind=2) (Option.bind (venue_Row k a0.Row) fun r20=>cond r20 (Option.bind (venue_Coord k a0.X) fun r23=>cond r23 (Option.bind (venue_Coord k a0.Y) fun r26=>some r26) (some false)) (some false)) (some false)))
def venue_Less (k:Nat) (a0:Seat) (a1:Seat):Option (Bool) :=
  cond (a0.Row < a1.Row) (some true) (cond (a0.Row=a1.Row) (some (decide (a0.X < a1.X))) (some false))
def venue_seats_l0 (k:Nat) (a0:(List Seat)):Nat→Int→Option (Ex (Unit) (Bool))
  | 0,_=>none
  | n+1,v30=>cond (v30 < (a0.length:Int)) (Option.bind (idx a0 v30) fun y32=>Option.bind (venue_seat k y32) fun r42=>cond (!r42) (some (Ex.rt false)) (cond (0 < v30) (Option.bind (idx a0 (wr (v30-1))) fun y47=>Option.bind (venue_Less k y47 y32) fun r49=>cond (!r49) (some (Ex.rt false)) (venue_seats_l0 k a0 n (wr (v30+1)))) (venue_seats_l0 k a0 n (wr (v30+1))))) (some (Ex.go ()))
def venue_seats (k:Nat) (a0:(List Seat)):Option (Bool) :=
  Option.bind (venue_seats_l0 k a0 k 0) fun o26=>Ex.elim o26 (fun v29=>cond (0 < (a0.length:Int)) (some (decide ((a0.length:Int)≤4096))) (some false)) (fun rr=>some rr)
def venue_Reach (k:Nat) (a0:Int):Option (Bool) :=
  Option.bind (venue_in k a0 1 1048576) fun r1=>some r1
def venue_kills_l0 (k:Nat) (a0:(List Int)) (a1:Int):Nat→Int→Option (Ex (Unit) (Bool))
  | 0,_=>none
  | n+1,v24=>cond (v24 < (a0.length:Int)) (Option.bind (idx a0 v24) fun y26=>cond (y26 < 0) (some (Ex.rt false)) (cond (a1≤y26) (some (Ex.rt false)) (cond (0 < v24) (Option.bind (idx a0 (wr (v24-1))) fun y33=>cond (y26≤y33) (some (Ex.rt false)) (venue_kills_l0 k a0 a1 n (wr (v24+1)))) (venue_kills_l0 k a0 a1 n (wr (v24+1)))))) (some (Ex.go ()))
def venue_kills (k:Nat) (a0:(List Int)) (a1:Int):Option (Bool) :=
  Option.bind (venue_kills_l0 k a0 a1 k 0) fun o20=>Ex.elim o20 (fun v23=>some (decide ((a0.length:Int)≤200))) (fun rr=>some rr)
def venue_poles_l0 (k:Nat) (a0:(List Pole)):Nat→Int→Option (Ex (Unit) (Bool))
  | 0,_=>none
  | n+1,v30=>cond (v30 < (a0.length:Int)) (Option.bind (idx a0 v30) fun y32=>Option.bind (venue_Coord k y32.X) fun r34=>cond (!r34) (some (Ex.rt false)) (Option.bind (venue_Coord k y32.Y) fun r38=>cond (!r38) (some (Ex.rt false)) (Option.bind (venue_Reach k y32.R) fun r42=>cond (!r42) (some (Ex.rt false)) (venue_poles_l0 k a0 n (wr (v30+1)))))) (some (Ex.go ()))
def venue_poles (k:Nat) (a0:(List Pole)):Option (Bool) :=
  Option.bind (venue_poles_l0 k a0 k 0) fun o26=>Ex.elim o26 (fun v29=>some (decide ((a0.length:Int)≤200))) (fun rr=>some rr)
def venue_Wrong (k:Nat) (a0:Venue):Option (ByteArray) :=
  Option.bind (venue_seats k a0.Seats) fun r1=>cond (!r1) (some (⟨#[115,101,97,116,115]⟩:ByteArray)) (Option.bind (venue_Reach k a0.Gap) fun r4=>cond (!r4) (some (⟨#[103,97,112]⟩:ByteArray)) (Option.bind (venue_in k a0.Radius 0 1048576) fun r7=>cond (!r7) (some (⟨#[114,97,100,105,117,115]⟩:ByteArray)) (Option.bind (venue_kills k a0.Kills (a0.Seats.length:Int)) fun r10=>cond (!r10) (some (⟨#[107,105,108,108,115]⟩:ByteArray)) (Option.bind (venue_poles k a0.Poles) fun r13=>cond (!r13) (some (⟨#[112,111,108,101,115]⟩:ByteArray)) (some (⟨#[]⟩:ByteArray))))))
def venue_May (k:Nat) (a0:Venue):Option (Bool) :=
  Option.bind (venue_Wrong k a0) fun r1=>some (r1 == (⟨#[]⟩:ByteArray))
def slices_Index_int_l0 (k:Nat) (a0:(List Int)) (a1:Int):Nat→Int→Option (Ex (Unit) (Int))
  | 0,_=>none
  | n+1,v14=>cond (v14 < (a0.length:Int)) (Option.bind (idx a0 v14) fun y16=>cond (a1=y16) (some (Ex.rt v14)) (slices_Index_int_l0 k a0 a1 n (wr (v14+1)))) (some (Ex.go ()))
def slices_Index_int (k:Nat) (a0:(List Int)) (a1:Int):Option (Int) :=
  Option.bind (slices_Index_int_l0 k a0 a1 k 0) fun o10=>Ex.elim o10 (fun v13=>some (-1)) (fun rr=>some rr)
def slices_Contains_int (k:Nat) (a0:(List Int)) (a1:Int):Option (Bool) :=
  Option.bind (slices_Index_int k a0 a1) fun r1=>some (decide (0≤r1))
def geom_Far_l0 (k:Nat) (a0:Seat) (a1:Seat):Nat→Int→Option (Ex (Unit) (Int))
  | 0,_=>none
  | n+1,v24=>cond (v24 < (([a0,a1]).length:Int)) (Option.bind (idx [a0,a1] v24) fun y26=>Option.bind (venue_Coord k y26.X) fun r28=>cond (!r28) (some (Ex.rt 0)) (Option.bind (venue_Coord k y26.Y) fun r32=>cond (!r32) (some (Ex.rt 0)) (geom_Far_l0 k a0 a1 n (wr (v24+1))))) (some (Ex.go ()))
def geom_Far (k:Nat) (a0:Seat) (a1:Seat):Option (Int) :=
  Option.bind (geom_Far_l0 k a0 a1 k 0) fun o20=>Ex.elim o20 (fun v23=>some (wr ((wr ((wr (a0.X-a1.X)) * (wr (a0.X-a1.X))))+(wr ((wr (a0.Y-a1.Y)) * (wr (a0.Y-a1.Y))))))) (fun rr=>some rr)
def geom_Close (k:Nat) (a0:Seat) (a1:Seat) (a2:Int):Option (Bool) :=
  Option.bind (geom_Far k a0 a1) fun r1=>some (decide (r1 < (wr (a2 * a2))))
def kill_by_l0 (k:Nat) (a0:Venue) (a1:Int):Nat→(List Int)→Int→Option ((List Int))
  | 0,_,_=>none
  | n+1,v33,v34=>cond (v34 < (a0.Poles.length:Int)) (Option.bind (idx a0.Poles v34) fun y36=>Option.bind (idx a0.Seats a1) fun y42=>Option.bind (geom_Close k y42 (Seat.mk 0 y36.X y36.Y 0) y36.R) fun r44=>cond r44 (gd (v33.length+([v34]).length≤4294967296) (kill_by_l0 k a0 a1 n (v33++[v34]) (wr (v34+1)))) (kill_by_l0 k a0 a1 n v33 (wr (v34+1)))) (some v33)
def kill_by (k:Nat) (a0:Venue) (a1:Int):Option ((List Int)) :=
  Option.bind (slices_Contains_int k a0.Kills a1) fun r1=>Option.bind (cond r1 (gd ((([(-1)]:List Int)).length≤4294967296) (some ([(-1)]:List Int))) (some [])) fun o5=>Option.bind (kill_by_l0 k a0 a1 k o5 0) fun o30=>some o30
def kill_Usable_l0 (k:Nat) (a0:Venue):Nat→(List Bool)→Int→Option ((List Bool))
  | 0,_,_=>none
  | n+1,v20,v21=>cond (v21 < ((List.replicate (a0.Seats.length:Int).toNat false).length:Int)) (Option.bind (kill_by k a0 v21) fun r23=>Option.bind (idx v20 v21) fun y25=>kill_Usable_l0 k a0 n (v20.set v21.toNat (decide ((r23.length:Int)=0))) (wr (v21+1))) (some v20)
def kill_Usable (k:Nat) (a0:Venue):Option ((List Bool)) :=
  Option.bind (venue_May k a0) fun r1=>cond (!r1) (some []) (gd ((0:Int)≤(a0.Seats.length:Int)∧(a0.Seats.length:Int)≤4294967296) (Option.bind (kill_Usable_l0 k a0 k (List.replicate (a0.Seats.length:Int).toNat false) 0) fun o17=>some o17))
def place_In (k:Nat) (a0:Venue):Option (PlaceHall×Bool) :=
  Option.bind (kill_Usable k a0) fun r5=>Option.bind (venue_May k a0) fun r7=>some (PlaceHall.mk a0 r5,r7)
def slices_IndexFunc_Party_l0 (k:Nat) (a0:(List Party)) (a1_F:(Party→Option Bool)):Nat→Int→Option (Ex (Unit) (Int))
  | 0,_=>none
  | n+1,v18=>cond (v18 < (a0.length:Int)) (Option.bind (idx a0 v18) fun y20=>Option.bind (a1_F y20) fun r22=>cond r22 (some (Ex.rt v18)) (slices_IndexFunc_Party_l0 k a0 a1_F n (wr (v18+1)))) (some (Ex.go ()))
def slices_IndexFunc_Party (k:Nat) (a0:(List Party)) (a1_F:Party→Option Bool):Option (Int) :=
  Option.bind (slices_IndexFunc_Party_l0 k a0 a1_F k 0) fun o14=>Ex.elim o14 (fun v17=>some (-1)) (fun rr=>some rr)
def slices_ContainsFunc_Party (k:Nat) (a0:(List Party)) (a1_F:Party→Option Bool):Option (Bool) :=
  Option.bind (slices_IndexFunc_Party k a0 a1_F) fun r1=>some (decide (0≤r1))
def party_May (k:Nat) (a0:Party):Option (Bool) :=
  cond (a0.Size < 1) (some false) (cond (8 < a0.Size) (some false) (cond (a0.Wheels < 0) (some false) (cond (a0.Wheels≤2) (some (decide ((wr (2 * a0.Wheels))≤a0.Size))) (some false))))
def party_All_1 (k:Nat) (a0:Party):Option (Bool) :=
  Option.bind (party_May k a0) fun r1=>some (!r1)
def party_All (k:Nat) (a0:(List Party)):Option (Bool) :=
  cond ((a0.length:Int)≤512) (Option.bind (slices_ContainsFunc_Party k a0 (fun p4=>party_All_1 k p4)) fun r2=>some (!r2)) (some false)
def run_free (k:Nat) (a0:Venue) (a1:(List Bool)) (a2:Int):Option (Bool) :=
  cond (a2 < 0) (some false) (cond ((a0.Seats.length:Int)≤a2) (some false) (cond ((a1.length:Int)≤a2) (some false) (Option.bind (idx a1 a2) fun y4=>some y4)))
def run_next (k:Nat) (a0:Venue) (a1:Int):Option (Bool) :=
  cond (0≤a1) (cond (a1 < (wr ((a0.Seats.length:Int)-1))) (Option.bind (idx a0.Seats (wr (a1+1))) fun y14=>Option.bind (idx a0.Seats a1) fun y16=>cond (y14.Row=y16.Row) (Option.bind (idx a0.Seats (wr (a1+1))) fun y19=>Option.bind (idx a0.Seats a1) fun y21=>some (decide ((wr (y19.X-y21.X))≤a0.Gap))) (some false)) (some false)) (some false)
def run_long_l0 (k:Nat) (a0:Venue) (a1:(List Bool)) (a2:Int) (a3:Int):Nat→Int→Option (Int)
  | 0,_=>none
  | n+1,v21=>cond (v21 < a3) (Option.bind (run_free k a0 a1 (wr (a2+v21))) fun r23=>cond r23 (cond (v21=0) (run_long_l0 k a0 a1 a2 a3 n (wr (v21+1))) (Option.bind (run_next k a0 (wr ((wr (a2+v21))-1))) fun r27=>cond r27 (run_long_l0 k a0 a1 a2 a3 n (wr (v21+1))) (some v21))) (some v21)) (some v21)
def run_long (k:Nat) (a0:Venue) (a1:(List Bool)) (a2:Int) (a3:Int):Option (Int) :=
  Option.bind (run_long_l0 k a0 a1 a2 a3 k 0) fun o18=>some o18
def run_piece_l0 (k:Nat) (a0:Int) (a1:Int):Nat→(List Int)→Int→Option ((List Int))
  | 0,_,_=>none
  | n+1,v10,v11=>cond (v11 < a1) (gd (v10.length+([wr (a0+v11)]).length≤4294967296) (run_piece_l0 k a0 a1 n (v10++[wr (a0+v11)]) (wr (v11+1)))) (some v10)
def run_piece (k:Nat) (a0:Int) (a1:Int):Option ((List Int)) :=
  Option.bind (run_piece_l0 k a0 a1 k [] 0) fun o7=>some o7
def run_Take (k:Nat) (a0:Venue) (a1:(List Bool)) (a2:Int) (a3:Int):Option ((List Int)×Bool) :=
  cond (a3 < 1) (some ([],false)) (cond ((a0.Seats.length:Int) < a3) (some ([],false)) (Option.bind (run_long k a0 a1 a2 a3) fun r3=>cond (r3 < a3) (some ([],false)) (Option.bind (run_piece k a2 a3) fun r6=>some (r6,true))))
def place_Hall_kinds_1 (k:Nat) (a0:Int) (a1:(List Int)) (a2:PlaceHall):Option (Int) :=
  cond (a0 < 0) (some 0) (cond ((a1.length:Int)≤a0) (some 0) (Option.bind (idx a1 a0) fun y7=>Option.bind (idx a2.V.Seats y7) fun y9=>some y9.Kind))
def place_Hall_kinds_l0 (k:Nat) (a0:PlaceHall) (a1:(List Int)):Nat→Int→Int→Int→Option (Ex (Int×Int) (Bool))
  | 0,_,_,_=>none
  | n+1,v30,v31,v32=>cond (v32 < (a1.length:Int)) (Option.bind (place_Hall_kinds_1 k v32 a1 a0) fun r34=>cond (r34=1) (Option.bind (place_Hall_kinds_1 k (wr (v32-1)) a1 a0) fun r37=>cond (!decide (r37=2)) (Option.bind (place_Hall_kinds_1 k (wr (v32+1)) a1 a0) fun r40=>cond (!decide (r40=2)) (some (Ex.rt false)) (place_Hall_kinds_l0 k a0 a1 n (wr (v30+1)) v31 (wr (v32+1)))) (place_Hall_kinds_l0 k a0 a1 n (wr (v30+1)) v31 (wr (v32+1)))) (cond (r34=2) (place_Hall_kinds_l0 k a0 a1 n v30 (wr (v31+1)) (wr (v32+1))) (place_Hall_kinds_l0 k a0 a1 n v30 v31 (wr (v32+1))))) (some (Ex.go (v30,v31)))
def place_Hall_kinds (k:Nat) (a0:PlaceHall) (a1:(List Int)) (a2:Int):Option (Bool) :=
  Option.bind (place_Hall_kinds_l0 k a0 a1 k 0 0 0) fun o26=>Ex.elim o26 (fun v29=>cond (a2=0) (cond (0 < v29.2) (some false) (cond (!decide (v29.1=a2)) (some false) (some true))) (cond (!decide (v29.1=a2)) (some false) (some true))) (fun rr=>some rr)
def place_Hall_Seats (k:Nat) (a0:PlaceHall) (a1:Party) (a2:Int):Option ((List Int)×Bool) :=
  Option.bind (party_May k a1) fun r1=>cond (!r1) (some ([],false)) (Option.bind (run_Take k a0.V a0.usable a2 a1.Size) fun r4=>cond (!r4.2) (some ([],false)) (Option.bind (place_Hall_kinds k a0 r4.1 a1.Wheels) fun r7=>cond (!r7) (some ([],false)) (some (r4.1,true))))
def place_Hall_Apart_l3 (k:Nat) (a0:PlaceHall) (a3:Party) (a4:Int) (v74:Int):Nat→Int→Option (Ex (Unit) (Bool))
  | 0,_=>none
  | n+1,v99=>cond (v99 < (wr (a4+a3.Size))) (cond (v74=v99) (some (Ex.rt false)) (Option.bind (idx a0.V.Seats v74) fun y111=>Option.bind (idx a0.V.Seats v99) fun y113=>Option.bind (geom_Close k y111 y113 a0.V.Radius) fun r115=>cond r115 (some (Ex.rt false)) (place_Hall_Apart_l3 k a0 a3 a4 v74 n (wr (v99+1))))) (some (Ex.go ()))
def place_Hall_Apart_l2 (k:Nat) (a0:PlaceHall) (a1:Party) (a2:Int) (a3:Party) (a4:Int):Nat→Int→Option (Ex (Unit) (Bool))
  | 0,_=>none
  | n+1,v74=>cond (v74 < (wr (a2+a1.Size))) (Option.bind (place_Hall_Apart_l3 k a0 a3 a4 v74 k a4) fun o95=>Ex.elim o95 (fun v98=>place_Hall_Apart_l2 k a0 a1 a2 a3 a4 n (wr (v74+1))) (fun rr=>some (Ex.rt rr))) (some (Ex.go ()))
def place_Hall_Apart (k:Nat) (a0:PlaceHall) (a1:Party) (a2:Int) (a3:Party) (a4:Int):Option (Bool) :=
  Option.bind (place_Hall_Apart_l2 k a0 a1 a2 a3 a4 k a2) fun o70=>Ex.elim o70 (fun v73=>some true) (fun rr=>some rr)
def plan_In_l3 (k:Nat) (a1:(List Party)) (r1:PlaceHall×Bool) (v143:(List (Int×Int))) (y146:Pin) (y181:(List Pin)):Nat→Int→Option (Ex (Unit) (PlanSet×Bool))
  | 0,_=>none
  | n+1,v208=>cond (v208 < (y181.length:Int)) (Option.bind (idx y181 v208) fun y210=>Option.bind (idx a1 y146.Party) fun y218=>Option.bind (idx a1 y210.Party) fun y220=>Option.bind (place_Hall_Apart k r1.1 y218 y146.First y220 y210.First) fun r222=>cond (!r222) (some (Ex.rt (PlanSet.mk r1.1 a1 v143,false))) (plan_In_l3 k a1 r1 v143 y146 y181 n (wr (v208+1)))) (some (Ex.go ()))
def plan_In_l2 (k:Nat) (a1:(List Party)) (a2:(List Pin)) (r1:PlaceHall×Bool):Nat→(List (Int×Int))→Int→Option (Ex ((List (Int×Int))) (PlanSet×Bool))
  | 0,_,_=>none
  | n+1,v143,v144=>cond (v144 < (a2.length:Int)) (Option.bind (idx a2 v144) fun y146=>Option.bind (cond (0 < v144) (Option.bind (idx a2 (wr (v144-1))) fun y164=>cond (y146.Party≤y164.Party) (some true) (cond (y146.Party < 0) (some true) (some (decide ((a1.length:Int)≤y146.Party))))) (cond (y146.Party < 0) (some true) (some (decide ((a1.length:Int)≤y146.Party))))) fun o154=>cond o154 (some (Ex.rt (PlanSet.mk r1.1 a1 v143,false))) (Option.bind (idx a1 y146.Party) fun y175=>Option.bind (place_Hall_Seats k r1.1 y175 y146.First) fun r177=>cond (!r177.2) (some (Ex.rt (PlanSet.mk r1.1 a1 v143,false))) (Option.bind (slc a2 0 v144) fun y181=>Option.bind (plan_In_l3 k a1 r1 v143 y146 y181 k 0) fun o204=>Ex.elim o204 (fun v207=>plan_In_l2 k a1 a2 r1 n (mset v143 y146.Party y146.First) (wr (v144+1))) (fun rr=>some (Ex.rt rr))))) (some (Ex.go v143))
def plan_In (k:Nat) (a0:Venue) (a1:(List Party)) (a2:(List Pin)):Option (PlanSet×Bool) :=
  Option.bind (place_In k a0) fun r1=>Option.bind (cond (!r1.2) (some true) (Option.bind (party_All k a1) fun r10=>some (!r10))) fun o6=>cond o6 (some (PlanSet.mk r1.1 a1 ([]:List (Int×Int)),false)) (Option.bind (plan_In_l2 k a1 a2 r1 k ([]:List (Int×Int)) 0) fun o139=>Ex.elim o139 (fun v142=>some (PlanSet.mk r1.1 a1 v142,true)) (fun rr=>some rr))
def place_Hall_All_l0 (k:Nat) (a0:PlaceHall) (a1:Party):Nat→(List Int)→Int→Option ((List Int))
  | 0,_,_=>none
  | n+1,v16,v17=>cond (v17 < (a0.V.Seats.length:Int)) (Option.bind (place_Hall_Seats k a0 a1 v17) fun r19=>cond r19.2 (gd (v16.length+([v17]).length≤4294967296) (place_Hall_All_l0 k a0 a1 n (v16++[v17]) (wr (v17+1)))) (place_Hall_All_l0 k a0 a1 n v16 (wr (v17+1)))) (some v16)
def place_Hall_All (k:Nat) (a0:PlaceHall) (a1:Party):Option ((List Int)) :=
  Option.bind (place_Hall_All_l0 k a0 a1 k [] 0) fun o13=>some o13
def prop_apart_l0 (k:Nat) (a0:PlanSet) (a1:(List Int)) (a2:Int) (a3:Int) (a4:Int):Nat→(List Int)→Int→Option ((List Int))
  | 0,_,_=>none
  | n+1,v28,v29=>cond (v29 < (a1.length:Int)) (Option.bind (idx a1 v29) fun y31=>Option.bind (idx a0.L a2) fun y39=>Option.bind (idx a0.L a3) fun y41=>Option.bind (place_Hall_Apart k a0.H y39 y31 y41 a4) fun r43=>cond r43 (gd (v28.length+([y31]).length≤4294967296) (prop_apart_l0 k a0 a1 a2 a3 a4 n (v28++[y31]) (wr (v29+1)))) (prop_apart_l0 k a0 a1 a2 a3 a4 n v28 (wr (v29+1)))) (some v28)
def prop_apart (k:Nat) (a0:PlanSet) (a1:(List Int)) (a2:Int) (a3:Int) (a4:Int):Option ((List Int)) :=
  Option.bind (prop_apart_l0 k a0 a1 a2 a3 a4 k [] 0) fun o25=>some o25
def prop_New_l3_fin (k:Nat) (r1:PlanSet×Bool) (v133:Int) (v186:(List (List Int))):Option ((List (List Int))):=some v186
def prop_New_l3_st (k:Nat) (r1:PlanSet×Bool) (v133:Int) (e193:Int×Int) (v186:(List (List Int))):Option (Ex ((List (List Int))) ((List (List Int)))):=Option.bind (idx v186 v133) fun y201=>Option.bind (prop_apart k r1.1 y201 v133 e193.1 e193.2) fun r203=>Option.bind (idx v186 v133) fun y205=>some (Ex.go (v186.set v133.toNat r203))
def prop_New_l3 (k:Nat) (r1:PlanSet×Bool) (v133:Int) (mr184:List (Int×Int)) (v186:(List (List Int))):Option ((List (List Int))):=mrange (fun p v=>prop_New_l3_st k r1 v133 p v) (fun v=>prop_New_l3_fin k r1 v133 v) mr184 v186
def prop_New_l2 (k:Nat) (a1:(List Party)) (r1:PlanSet×Bool):Nat→(List (List Int))→Int→Option ((List (List Int)))
  | 0,_,_=>none
  | n+1,v132,v133=>cond (v133 < (a1.length:Int)) (cond ((mget r1.1.Pins v133).isSome) (Option.bind (idx v132 v133) fun y136=>prop_New_l2 k a1 r1 n (v132.set v133.toNat [(mget r1.1.Pins v133).getD 0]) (wr (v133+1))) (Option.bind (idx a1 v133) fun y144=>Option.bind (place_Hall_All k r1.1.H y144) fun r146=>Option.bind (idx v132 v133) fun y148=>Option.bind (prop_New_l3 k r1 v133 r1.1.Pins (v132.set v133.toNat r146)) fun o181=>prop_New_l2 k a1 r1 n o181 (wr (v133+1)))) (some v132)
def prop_New (k:Nat) (a0:Venue) (a1:(List Party)) (a2:(List Pin)):Option ((Option PropProp)×Int) :=
  Option.bind (plan_In k a0 a1 a2) fun r1=>cond (!r1.2) (some (none,1)) (gd ((0:Int)≤(a1.length:Int)∧(a1.length:Int)≤4294967296) (Option.bind (prop_New_l2 k a1 r1 k (List.replicate (a1.length:Int).toNat ([]:(List Int))) 0) fun o129=>some (some (PropProp.mk r1.1 [o129] ([]:List Int)),0)))
def prop_Prop_has (k:Nat) (a0:PropProp) (a1:Int):Option (Bool) :=
  cond (a1 < 0) (some false) (some (decide (a1 < (a0.s.L.length:Int))))
def prop_Prop_now (k:Nat) (a0:PropProp):Option ((List (List Int))) :=
  Option.bind (idx a0.levels (wr ((a0.levels.length:Int)-1))) fun y3=>some y3
def slices_Clone_int (k:Nat) (a0:(List Int)):Option ((List Int)) :=
  gd ((([]:List Int)).length+a0.length≤4294967296) (some (([]:List Int)++a0))
def prop_Prop_Domain (k:Nat) (a0:PropProp) (a1:Int):Option ((List Int)) :=
  Option.bind (prop_Prop_has k a0 a1) fun r1=>cond (!r1) (some ((([]:List Int)).take 0)) (Option.bind (prop_Prop_now k a0) fun r4=>Option.bind (idx r4 a1) fun y6=>Option.bind (slices_Clone_int k y6) fun r8=>some r8)
def prop_Prop_Depth (k:Nat) (a0:PropProp):Option (Int) :=
  some (a0.p.length:Int)
def prop_Prop_Pinned (k:Nat) (a0:PropProp) (a1:Int):Option (Bool) :=
  Option.bind (prop_Prop_has k a0 a1) fun r1=>cond (!r1) (some false) (some ((mget a0.s.Pins a1).isSome))
def slices_Clone_Lint (k:Nat) (a0:(List (List Int))):Option ((List (List Int))) :=
  gd ((([]:List (List Int))).length+a0.length≤4294967296) (some (([]:List (List Int))++a0))
def prop_Prop_Push_l0 (k:Nat) (a0:PropProp) (a1:Int) (r1:(Int)):Nat→(List (List Int))→Int→Option ((List (List Int)))
  | 0,_,_=>none
  | n+1,v77,v78=>cond (v78 < (v77.length:Int)) (Option.bind (idx v77 v78) fun y86=>Option.bind (prop_apart k a0.s y86 v78 r1 a1) fun r88=>Option.bind (idx v77 v78) fun y90=>prop_Prop_Push_l0 k a0 a1 r1 n (v77.set v78.toNat r88) (wr (v78+1))) (some v77)
def prop_Prop_Push (k:Nat) (a0:PropProp) (a1:Int):Option (Bool×(List (List (List Int)))×(List Int)) :=
  Option.bind (prop_Prop_Depth k a0) fun r1=>Option.bind (Option.bind (prop_Prop_has k a0 r1) fun r27=>cond (!r27) (some true) (cond (a1=(-1)) (Option.bind (prop_Prop_Pinned k a0 r1) fun r31=>cond r31 (some true) (cond (!decide (a1=(-1))) (Option.bind (prop_Prop_now k a0) fun r35=>Option.bind (idx r35 r1) fun y37=>Option.bind (slices_Contains_int k y37 a1) fun r39=>some (!r39)) (some false))) (cond (!decide (a1=(-1))) (Option.bind (prop_Prop_now k a0) fun r42=>Option.bind (idx r42 r1) fun y44=>Option.bind (slices_Contains_int k y44 a1) fun r46=>some (!r46)) (some false)))) fun o24=>cond o24 (some (false,a0.levels,a0.p)) (Option.bind (prop_Prop_now k a0) fun r49=>Option.bind (slices_Clone_Lint k r49) fun r51=>Option.bind (idx r51 r1) fun y53=>cond (!decide (a1=(-1))) (Option.bind (idx (r51.set r1.toNat []) r1) fun y56=>Option.bind (prop_Prop_Push_l0 k a0 a1 r1 k ((r51.set r1.toNat []).set r1.toNat [a1]) (wr (r1+1))) fun o74=>gd (a0.levels.length+([o74]).length≤4294967296) (gd (a0.p.length+([a1]).length≤4294967296) (some (true,a0.levels++[o74],a0.p++[a1])))) (gd (a0.levels.length+([r51.set r1.toNat []]).length≤4294967296) (gd (a0.p.length+([a1]).length≤4294967296) (some (true,a0.levels++[r51.set r1.toNat []],a0.p++[a1])))))
def prop_Prop_Most_l0 (k:Nat) (a0:PropProp) (r1:((List (List Int)))):Nat→Int→Int→Option (Int)
  | 0,_,_=>none
  | n+1,v20,v21=>cond (v21 < (r1.length:Int)) (Option.bind (idx r1 v21) fun y23=>cond (0 < (y23.length:Int)) (Option.bind (idx a0.s.L v21) fun y26=>prop_Prop_Most_l0 k a0 r1 n (wr (v20+y26.Size)) (wr (v21+1))) (prop_Prop_Most_l0 k a0 r1 n v20 (wr (v21+1)))) (some v20)
def prop_Prop_Most (k:Nat) (a0:PropProp):Option (Int) :=
  Option.bind (prop_Prop_now k a0) fun r1=>Option.bind (prop_Prop_Most_l0 k a0 r1 k 0 0) fun o17=>some o17
def prop_Prop_Pop (k:Nat) (a0:PropProp):Option (Bool×(List (List (List Int)))×(List Int)) :=
  Option.bind (prop_Prop_Depth k a0) fun r1=>cond (r1=0) (some (false,a0.levels,a0.p)) (gd ((0:Int)≤(wr ((a0.levels.length:Int)-1))∧(wr ((a0.levels.length:Int)-1))≤(a0.levels.length:Int)) (gd ((0:Int)≤(wr ((a0.p.length:Int)-1))∧(wr ((a0.p.length:Int)-1))≤(a0.p.length:Int)) (some (true,(a0.levels).take ((wr ((a0.levels.length:Int)-1)).toNat),(a0.p).take ((wr ((a0.p.length:Int)-1)).toNat)))))
def ref6_seat (k:Nat) (a0:Venue) (a1:Int):Option (Bool) :=
  cond (0≤a1) (some (decide (a1 < (a0.Seats.length:Int)))) (some false)
def ref6_is (k:Nat) (a0:(List Bool)) (a1:Int):Option (Bool) :=
  cond (0≤a1) (cond (a1 < (a0.length:Int)) (Option.bind (idx a0 a1) fun y3=>some y3) (some false)) (some false)
def ref6_next (k:Nat) (a0:Venue) (a1:Int):Option (Bool) :=
  Option.bind (ref6_seat k a0 a1) fun r16=>cond r16 (Option.bind (ref6_seat k a0 (wr (a1+1))) fun r19=>cond r19 (Option.bind (idx a0.Seats a1) fun y22=>Option.bind (idx a0.Seats (wr (a1+1))) fun y24=>cond (y22.Row=y24.Row) (Option.bind (idx a0.Seats (wr (a1+1))) fun y27=>Option.bind (idx a0.Seats a1) fun y29=>some (decide ((wr (y27.X-y29.X))≤a0.Gap))) (some false)) (some false)) (some false)
def ref6_long_l0 (k:Nat) (a0:Venue) (a1:(List Bool)) (a2:Int):Nat→Int→Option (Int)
  | 0,_=>none
  | n+1,v31=>Option.bind (ref6_next k a0 (wr ((wr (a2+v31))-1))) fun r32=>cond r32 (Option.bind (ref6_is k a1 (wr (a2+v31))) fun r35=>cond r35 (ref6_long_l0 k a0 a1 a2 n (wr (v31+1))) (some v31)) (some v31)
def ref6_long (k:Nat) (a0:Venue) (a1:(List Bool)) (a2:Int):Option (Int) :=
  Option.bind (Option.bind (ref6_seat k a0 a2) fun r9=>cond (!r9) (some true) (Option.bind (ref6_is k a1 a2) fun r12=>some (!r12))) fun o6=>cond o6 (some 0) (Option.bind (ref6_long_l0 k a0 a1 a2 k 1) fun o28=>some o28)
def law3_Make_l0 (k:Nat) (a0:(List Int)) (a1:Int):Nat→(List Seat)→Int→(List Int)→(List Pole)→Int→Int→Int→Option ((List Seat)×Int×(List Int)×(List Pole))
  | 0,_,_,_,_,_,_,_=>none
  | n+1,v91,v92,v93,v94,v95,v96,v97=>Option.bind (cond (v97 < (a0.length:Int)) (some (decide ((v91.length:Int) < a1))) (some false)) fun o99=>cond o99 (Option.bind (idx a0 v97) fun y104=>Option.bind (cond (((IntKind.u64.wrap y104).tmod 7)=0) (some (wr (v95+1),0)) (cond (((IntKind.u64.wrap y104).tmod 7)=1) (some (v95,wr ((wr (v96+10))+5))) (some (v95,wr (v96+10))))) fun o108=>Option.bind (cond (((IntKind.u64.wrap ((IntKind.u64.wrap y104).tdiv 7)).tmod 6)=0) (some 1) (cond (((IntKind.u64.wrap ((IntKind.u64.wrap y104).tdiv 7)).tmod 6)=1) (some 2) (cond (((IntKind.u64.wrap ((IntKind.u64.wrap y104).tdiv 7)).tmod 6)=2) (some 2) (some 0)))) fun o116=>gd (v91.length+([Seat.mk o108.1 o108.2 (wr (10 * o108.1)) o116]).length≤4294967296) (Option.bind (cond (((IntKind.u64.wrap ((IntKind.u64.wrap y104).tdiv 42)).tmod 9)=0) (gd (v93.length+([wr (((v91++[Seat.mk o108.1 o108.2 (wr (10 * o108.1)) o116]).length:Int)-1)]).length≤4294967296) (some (v93++[wr (((v91++[Seat.mk o108.1 o108.2 (wr (10 * o108.1)) o116]).length:Int)-1)]))) (some v93)) fun o125=>Option.bind (cond (((IntKind.u64.wrap ((IntKind.u64.wrap y104).tdiv 42)).tmod 11)=1) (gd (v94.length+([Pole.mk o108.2 (wr (10 * o108.1)) (wr (1+(wr ((IntKind.u64.wrap ((IntKind.u64.wrap y104).tdiv 500)).tmod 12))))]).length≤4294967296) (some (v94++[Pole.mk o108.2 (wr (10 * o108.1)) (wr (1+(wr ((IntKind.u64.wrap ((IntKind.u64.wrap y104).tdiv 500)).tmod 12))))]))) (some v94)) fun o132=>cond (((IntKind.u64.wrap ((IntKind.u64.wrap y104).tdiv 42)).tmod 5)=3) (law3_Make_l0 k a0 a1 n (v91++[Seat.mk o108.1 o108.2 (wr (10 * o108.1)) o116]) (wr ((IntKind.u64.wrap ((IntKind.u64.wrap y104).tdiv 300)).tmod 25)) o125 o132 o108.1 o108.2 (wr (v97+1))) (law3_Make_l0 k a0 a1 n (v91++[Seat.mk o108.1 o108.2 (wr (10 * o108.1)) o116]) v92 o125 o132 o108.1 o108.2 (wr (v97+1))))) (some (v91,v92,v93,v94))
def law3_Make (k:Nat) (a0:(List Int)) (a1:Int):Option (Venue) :=
  Option.bind (law3_Make_l0 k a0 a1 k [Seat.mk 0 0 0 0] 0 [] [] 0 0 0) fun o88=>some (Venue.mk o88.1 10 o88.2.1 o88.2.2.1 o88.2.2.2)
def law12_Small_l0 (k:Nat) (a1:(List Int)):Nat→(List Party)→Int→Option ((List Party))
  | 0,_,_=>none
  | n+1,v46,v47=>cond (v47 < (a1.length:Int)) (cond (v47 < 4) (Option.bind (idx a1 v47) fun y50=>Option.bind (cond (((IntKind.u64.wrap ((IntKind.u64.wrap y50).tdiv 3)).tmod 4)=0) (some (decide (1 < (wr (1+(wr ((IntKind.u64.wrap y50).tmod 3))))))) (some false)) fun o53=>cond o53 (gd (v46.length+([Party.mk (wr (1+(wr ((IntKind.u64.wrap y50).tmod 3)))) 1]).length≤4294967296) (law12_Small_l0 k a1 n (v46++[Party.mk (wr (1+(wr ((IntKind.u64.wrap y50).tmod 3)))) 1]) (wr (v47+1)))) (gd (v46.length+([Party.mk (wr (1+(wr ((IntKind.u64.wrap y50).tmod 3)))) 0]).length≤4294967296) (law12_Small_l0 k a1 n (v46++[Party.mk (wr (1+(wr ((IntKind.u64.wrap y50).tmod 3)))) 0]) (wr (v47+1))))) (some v46)) (some v46)
def law12_Small (k:Nat) (a0:(List Int)) (a1:(List Int)):Option (Venue×(List Party)) :=
  Option.bind (law3_Make k a0 9) fun r1=>Option.bind (cond (0 < (a1.length:Int)) (Option.bind (idx a1 0) fun y10=>some (!decide ((y10.tmod 3)=0))) (some false)) fun o6=>Option.bind (cond o6 (some (r1.Radius.tmod 12)) (some r1.Radius)) fun o13=>Option.bind (law12_Small_l0 k a1 k [] 0) fun o43=>some (Venue.mk r1.Seats r1.Gap o13 r1.Kills r1.Poles,o43)
def ref6_SameInts_l0 (k:Nat) (a0:(List Int)) (a1:(List Int)):Nat→Int→Option (Ex (Unit) (Bool))
  | 0,_=>none
  | n+1,v19=>cond (v19 < (a0.length:Int)) (Option.bind (idx a0 v19) fun y25=>Option.bind (idx a1 v19) fun y27=>cond (!decide (y25=y27)) (some (Ex.rt false)) (ref6_SameInts_l0 k a0 a1 n (wr (v19+1)))) (some (Ex.go ()))
def ref6_SameInts (k:Nat) (a0:(List Int)) (a1:(List Int)):Option (Bool) :=
  cond (!decide ((a0.length:Int)=(a1.length:Int))) (some false) (Option.bind (ref6_SameInts_l0 k a0 a1 k 0) fun o15=>Ex.elim o15 (fun v18=>some true) (fun rr=>some rr))
def slices_Clone_Plan_int (k:Nat) (a0:(List Int)):Option ((List Int)) :=
  gd ((([]:List Int)).length+a0.length≤4294967296) (some (([]:List Int)++a0))
def prop_Prop_Plan (k:Nat) (a0:PropProp):Option ((List Int)) :=
  Option.bind (slices_Clone_Plan_int k a0.p) fun r1=>some r1
def plan_Pins (k:Nat) (a0:Venue) (a1:(List Party)) (a2:(List Pin)):Option (Bool) :=
  Option.bind (plan_In k a0 a1 a2) fun r1=>some r1.2
def search_Least_l0 (k:Nat) (a1:(List Party)):Nat→(List Int)→Int→Option ((List Int))
  | 0,_,_=>none
  | n+1,v16,v17=>cond (v17 < ((List.replicate (a1.length:Int).toNat (0:Int)).length:Int)) (Option.bind (idx v16 v17) fun y19=>search_Least_l0 k a1 n (v16.set v17.toNat (-1)) (wr (v17+1))) (some v16)
def search_Least_l1 (k:Nat) (a2:(List Pin)):Nat→(List Int)→Int→Option ((List Int))
  | 0,_,_=>none
  | n+1,v36,v37=>cond (v37 < (a2.length:Int)) (Option.bind (idx a2 v37) fun y39=>Option.bind (idx v36 y39.Party) fun y41=>search_Least_l1 k a2 n (v36.set y39.Party.toNat y39.First) (wr (v37+1))) (some v36)
def search_Least (k:Nat) (a0:Venue) (a1:(List Party)) (a2:(List Pin)):Option ((List Int)) :=
  Option.bind (plan_Pins k a0 a1 a2) fun r1=>cond (!r1) (some []) (gd ((0:Int)≤(a1.length:Int)∧(a1.length:Int)≤4294967296) (Option.bind (search_Least_l0 k a1 k (List.replicate (a1.length:Int).toNat (0:Int)) 0) fun o13=>Option.bind (search_Least_l1 k a2 k o13 0) fun o33=>some o33))
def plan_Seated_l0 (k:Nat) (a0:(List Party)) (a1:(List Int)):Nat→Int→Int→Option (Int)
  | 0,_,_=>none
  | n+1,v28,v29=>cond (v29 < (a1.length:Int)) (Option.bind (idx a1 v29) fun y31=>cond (0≤y31) (Option.bind (idx a0 v29) fun y34=>plan_Seated_l0 k a0 a1 n (wr (v28+y34.Size)) (wr (v29+1))) (plan_Seated_l0 k a0 a1 n v28 (wr (v29+1)))) (some v28)
def plan_Seated (k:Nat) (a0:(List Party)) (a1:(List Int)):Option (Int) :=
  Option.bind (cond (!decide ((a0.length:Int)=(a1.length:Int))) (some true) (Option.bind (party_All k a0) fun r8=>some (!r8))) fun o4=>cond o4 (some 0) (Option.bind (plan_Seated_l0 k a0 a1 k 0 0) fun o25=>some o25)
def search_Row (k:Nat) (a0:PropProp):Option ((List Int)) :=
  Option.bind (prop_Prop_Depth k a0) fun r1=>Option.bind (prop_Prop_Domain k a0 r1) fun r3=>Option.bind (prop_Prop_Pinned k a0 r1) fun r5=>cond (!r5) (gd (r3.length+(([(-1)]:List Int)).length≤4294967296) (some (r3++([(-1)]:List Int)))) (some r3)
def search_hunt_look (k:Nat) (a0:SearchHunt):Option (Bool×(List (List (List Int)))×(List Int)×SearchResult×Int×(List SearchRow)) :=
  cond (a0.fuel≤a0.r.Nodes) (some (false,a0.p.levels,a0.p.p,a0.r,a0.most,a0.stack)) (Option.bind (prop_Prop_Depth k a0.p) fun r4=>cond (r4=(a0.l.length:Int)) (Option.bind (prop_Prop_Most k a0.p) fun r7=>Option.bind (cond (a0.most < r7) (Option.bind (prop_Prop_Plan k a0.p) fun r16=>some (r16,r7)) (some (a0.r.Plan,a0.most))) fun o12=>Option.bind (prop_Prop_Pop k a0.p) fun r18=>some (true,r18.2.1,r18.2.2,SearchResult.mk a0.r.Answer o12.1 (wr (a0.r.Nodes+1)) a0.r.Tree,o12.2,a0.stack)) (Option.bind (prop_Prop_Most k a0.p) fun r22=>cond (a0.most < r22) (Option.bind (search_Row k a0.p) fun r28=>gd (a0.stack.length+([SearchRow.mk r28 0]).length≤4294967296) (gd (a0.r.Tree.length+([true]).length≤4294967296) (some (true,a0.p.levels,a0.p.p,SearchResult.mk a0.r.Answer a0.r.Plan (wr (a0.r.Nodes+1)) (a0.r.Tree++[true]),a0.most,a0.stack++[SearchRow.mk r28 0])))) (gd (a0.r.Tree.length+([false]).length≤4294967296) (Option.bind (prop_Prop_Pop k a0.p) fun r33=>some (true,r33.2.1,r33.2.2,SearchResult.mk a0.r.Answer a0.r.Plan (wr (a0.r.Nodes+1)) (a0.r.Tree++[false]),a0.most,a0.stack)))))
def search_hunt_run_l0 (k:Nat) (a0:SearchHunt):Nat→(List (List (List Int)))→(List Int)→Int→(List Int)→Int→(List Bool)→Int→(List SearchRow)→Bool→Option ((List (List (List Int)))×(List Int)×Int×(List Int)×Int×(List Bool)×Int×(List SearchRow)×Bool)
  | 0,_,_,_,_,_,_,_,_,_=>none
  | n+1,v51,v52,v53,v54,v55,v56,v57,v58,v59=>Option.bind (cond v59 (some (decide (0 < (v58.length:Int)))) (some false)) fun o61=>cond o61 (Option.bind (idx v58 (wr ((v58.length:Int)-1))) fun y68=>cond (y68.at_=(y68.l.length:Int)) (gd ((0:Int)≤(wr ((v58.length:Int)-1))∧(wr ((v58.length:Int)-1))≤(v58.length:Int)) (Option.bind (prop_Prop_Pop k (PropProp.mk a0.p.s v51 v52)) fun r73=>search_hunt_run_l0 k a0 n r73.2.1 r73.2.2 v53 v54 v55 v56 v57 ((v58).take ((wr ((v58.length:Int)-1)).toNat)) v59)) (Option.bind (idx y68.l (wr ((wr (y68.at_+1))-1))) fun y79=>Option.bind (prop_Prop_Push k (PropProp.mk a0.p.s v51 v52) y79) fun r81=>Option.bind (search_hunt_look k (SearchHunt.mk (PropProp.mk a0.p.s r81.2.1 r81.2.2) a0.l (SearchResult.mk v53 v54 v55 v56) v57 a0.fuel (v58.set (wr ((v58.length:Int)-1)).toNat (SearchRow.mk y68.l (wr (y68.at_+1)))))) fun r83=>search_hunt_run_l0 k a0 n r83.2.1 r83.2.2.1 r83.2.2.2.1.Answer r83.2.2.2.1.Plan r83.2.2.2.1.Nodes r83.2.2.2.1.Tree r83.2.2.2.2.1 r83.2.2.2.2.2 r83.1)) (some (v51,v52,v53,v54,v55,v56,v57,v58,v59))
def search_hunt_run (k:Nat) (a0:SearchHunt):Option (Bool×(List (List (List Int)))×(List Int)×SearchResult×Int×(List SearchRow)) :=
  Option.bind (search_hunt_look k a0) fun r1=>Option.bind (search_hunt_run_l0 k a0 k r1.2.1 r1.2.2.1 r1.2.2.2.1.Answer r1.2.2.2.1.Plan r1.2.2.2.1.Nodes r1.2.2.2.1.Tree r1.2.2.2.2.1 r1.2.2.2.2.2 r1.1) fun o48=>some (o48.2.2.2.2.2.2.2.2,o48.1,o48.2.1,SearchResult.mk o48.2.2.1 o48.2.2.2.1 o48.2.2.2.2.1 o48.2.2.2.2.2.1,o48.2.2.2.2.2.2.1,o48.2.2.2.2.2.2.2.1)
def plan_Full_l0 (k:Nat) (a1:(List Int)):Nat→Int→Option (Ex (Unit) (Bool))
  | 0,_=>none
  | n+1,v14=>cond (v14 < (a1.length:Int)) (Option.bind (idx a1 v14) fun y16=>cond (y16 < 0) (some (Ex.rt false)) (plan_Full_l0 k a1 n (wr (v14+1)))) (some (Ex.go ()))
def plan_Full (k:Nat) (a0:(List Party)) (a1:(List Int)):Option (Bool) :=
  Option.bind (plan_Full_l0 k a1 k 0) fun o10=>Ex.elim o10 (fun v13=>some (decide ((a0.length:Int)=(a1.length:Int)))) (fun rr=>some rr)
def search_Best (k:Nat) (a0:Venue) (a1:(List Party)) (a2:(List Pin)) (a3:Int):Option (SearchResult×Int) :=
  Option.bind (prop_New k a0 a1 a2) fun r1=>optc r1.1 (Option.bind (cond (!decide (r1.2=0)) (some true) (cond (a3 < 0) (some true) (some (decide (1073741824 < a3))))) fun o7=>cond o7 (some (SearchResult.mk 0 [] 0 [],1)) (Option.bind (search_Least k a0 a1 a2) fun r13=>Option.bind (plan_Seated k a1 r13) fun r15=>none)) (fun x3=>Option.bind (cond (!decide (r1.2=0)) (some true) (cond (a3 < 0) (some true) (some (decide (1073741824 < a3))))) fun o21=>cond o21 (some (SearchResult.mk 0 [] 0 [],1)) (Option.bind (search_Least k a0 a1 a2) fun r27=>Option.bind (plan_Seated k a1 r27) fun r29=>Option.bind (search_hunt_run k (SearchHunt.mk x3 a1 (SearchResult.mk 0 r27 0 []) r29 a3 [])) fun r31=>cond (!r31.1) (some (SearchResult.mk 3 r31.2.2.2.1.Plan r31.2.2.2.1.Nodes r31.2.2.2.1.Tree,0)) (Option.bind (plan_Full k a1 r31.2.2.2.1.Plan) fun r34=>cond r34 (some (SearchResult.mk 1 r31.2.2.2.1.Plan r31.2.2.2.1.Nodes r31.2.2.2.1.Tree,0)) (some (SearchResult.mk 2 r31.2.2.2.1.Plan r31.2.2.2.1.Nodes r31.2.2.2.1.Tree,0)))))
def search_Enough_l0 (k:Nat) (a1:(List Party)) (r1:PlanSet×Bool):Nat→Int→Int→Option (Int)
  | 0,_,_=>none
  | n+1,v19,v20=>cond (v20 < (a1.length:Int)) (Option.bind (idx a1 v20) fun y22=>Option.bind (place_Hall_All k r1.1.H y22) fun r24=>search_Enough_l0 k a1 r1 n (if 1073741824 < (wr (v19 * (wr ((r24.length:Int)+2)))) then 1073741824 else (wr (v19 * (wr ((r24.length:Int)+2))))) (wr (v20+1))) (some v19)
def search_Enough (k:Nat) (a0:Venue) (a1:(List Party)) (a2:(List Pin)):Option (Int) :=
  Option.bind (plan_In k a0 a1 a2) fun r1=>cond (!r1.2) (some 0) (Option.bind (search_Enough_l0 k a1 r1 k 1 0) fun o16=>some o16)
def search_seq_l0 (k:Nat) (a0:Int):Nat→(List Int)→Int→Option ((List Int))
  | 0,_,_=>none
  | n+1,v10,v11=>cond (v11 < a0) (gd (v10.length+([v11]).length≤4294967296) (search_seq_l0 k a0 n (v10++[v11]) (wr (v11+1)))) (some v10)
def search_seq (k:Nat) (a0:Int):Option ((List Int)) :=
  Option.bind (search_seq_l0 k a0 k [] 0) fun o7=>some o7
def search_Better_1 (k:Nat) (a0:Int) (a1:(List Int)) (a2:(List Int)):Option (Bool) :=
  Option.bind (idx a1 a0) fun y5=>Option.bind (idx a2 a0) fun y7=>some (!decide (y5=y7))
def slices_IndexFunc_int_l0 (k:Nat) (a0:(List Int)) (a1_F:(Int→Option Bool)):Nat→Int→Option (Ex (Unit) (Int))
  | 0,_=>none
  | n+1,v18=>cond (v18 < (a0.length:Int)) (Option.bind (idx a0 v18) fun y20=>Option.bind (a1_F y20) fun r22=>cond r22 (some (Ex.rt v18)) (slices_IndexFunc_int_l0 k a0 a1_F n (wr (v18+1)))) (some (Ex.go ()))
def slices_IndexFunc_int (k:Nat) (a0:(List Int)) (a1_F:Int→Option Bool):Option (Int) :=
  Option.bind (slices_IndexFunc_int_l0 k a0 a1_F k 0) fun o14=>Ex.elim o14 (fun v17=>some (-1)) (fun rr=>some rr)
def search_Better (k:Nat) (a0:(List Party)) (a1:(List Int)) (a2:(List Int)):Option (Bool) :=
  Option.bind (cond (!decide ((a1.length:Int)=(a0.length:Int))) (some true) (some (!decide ((a2.length:Int)=(a0.length:Int))))) fun o2=>cond o2 (some false) (Option.bind (plan_Seated k a0 a1) fun r11=>Option.bind (plan_Seated k a0 a2) fun r13=>Option.bind (search_seq k (a0.length:Int)) fun r15=>Option.bind (slices_IndexFunc_int k r15 (fun p19=>search_Better_1 k p19 a1 a2)) fun r17=>cond (!decide (r11=r13)) (some (decide (r13 < r11))) (cond (r17 < 0) (some false) (Option.bind (idx a1 r17) fun y22=>cond (y22=(-1)) (Option.bind (idx a2 r17) fun y25=>some (decide (y25=(-1)))) (Option.bind (idx a2 r17) fun y27=>cond (y27=(-1)) (Option.bind (idx a2 r17) fun y30=>some (decide (y30=(-1)))) (Option.bind (idx a1 r17) fun y36=>Option.bind (idx a2 r17) fun y38=>some (decide (y36 < y38)))))))
def law15_told (k:Nat)  : Option (Bool) :=
  Option.bind (search_Best k (Venue.mk [Seat.mk 0 0 0 0,Seat.mk 0 10 0 0,Seat.mk 0 20 0 0] 10 0 [] []) [Party.mk 2 0,Party.mk 2 0,Party.mk 1 0] [] 1000) fun r5=>Option.bind (search_Best k (Venue.mk [Seat.mk 0 0 0 0,Seat.mk 0 10 0 0,Seat.mk 0 20 0 0] 10 0 [] []) [] [] 1) fun r7=>Option.bind (search_Best k (Venue.mk [Seat.mk 0 0 0 0,Seat.mk 0 10 0 0,Seat.mk 0 20 0 0] 10 0 [] []) [Party.mk 2 0,Party.mk 2 0,Party.mk 1 0] [] 0) fun r9=>Option.bind (search_Best k (Venue.mk [Seat.mk 0 0 0 0,Seat.mk 0 10 0 0,Seat.mk 0 20 0 0] 10 0 [] []) [Party.mk 2 0,Party.mk 2 0,Party.mk 1 0] [] (-1)) fun r11=>cond (r5.2=0) (cond (r5.1.Answer=2) (Option.bind (ref6_SameInts k r5.1.Plan ([0,(-1),2]:List Int)) fun r15=>cond r15 (cond (r7.2=0) (cond (r7.1.Answer=1) (cond (r7.1.Nodes=1) (cond ((r7.1.Tree.length:Int)=0) (cond (r9.2=0) (cond (r9.1.Answer=3) (cond (r9.1.Nodes=0) (Option.bind (ref6_SameInts k r9.1.Plan ([(-1),(-1),(-1)]:List Int)) fun r25=>cond r25 (cond (r11.2=1) (Option.bind (search_Enough k (Venue.mk [Seat.mk 0 0 0 0,Seat.mk 0 10 0 0,Seat.mk 0 20 0 0] 10 0 [] []) [Party.mk 2 0,Party.mk 2 0,Party.mk 1 0] []) fun r29=>cond (r29=80) (Option.bind (search_Least k (Venue.mk [Seat.mk 0 0 0 0,Seat.mk 0 10 0 0,Seat.mk 0 20 0 0] 10 0 [] []) [Party.mk 2 0,Party.mk 2 0,Party.mk 1 0] []) fun r32=>Option.bind (ref6_SameInts k r32 ([(-1),(-1),(-1)]:List Int)) fun r34=>cond r34 (Option.bind (search_Better k [Party.mk 2 0,Party.mk 2 0,Party.mk 1 0] ([0,(-1),2]:List Int) ([1,(-1),0]:List Int)) fun r37=>cond r37 (Option.bind (search_Better k [Party.mk 2 0,Party.mk 2 0,Party.mk 1 0] ([0,(-1),2]:List Int) ([0,(-1),2]:List Int)) fun r40=>some (!r40)) (some false)) (some false)) (some false)) (some false)) (some false)) (some false)) (some false)) (some false)) (some false)) (some false)) (some false)) (some false)) (some false)) (some false)) (some false)
def law15_SearchOrder_l1 (k:Nat) (a:(List (List Int))) (L:(List Party)) (q:Int):Nat→(List Int)→Int→Option ((List Int))
  | 0,_,_=>none
  | n+1,v,i=>cond (i < (L.length:Int)) (Option.bind (idx a q) fun z=>Option.bind (cond (i < (z.length:Int)) (Option.bind (idx z i) fun y=>some (wr ((wr ((IntKind.u64.wrap y).tmod 6))-1))) (some (-1))) fun e=>gd (v.length+([e]).length≤4294967296) (law15_SearchOrder_l1 k a L q n (v++[e]) (wr (i+1)))) (some v)
def law15_SearchOrder_l0 (k:Nat) (a:(List (List Int))) (L:(List Party)):Nat→(List (List Int))→Int→Option ((List (List Int)))
  | 0,_,_=>none
  | n+1,rows,q=>cond (q < 3) (Option.bind (law15_SearchOrder_l1 k a L q k [] 0) fun cur=>law15_SearchOrder_l0 k a L n (rows++[cur]) (wr (q+1))) (some rows)
def law15_SearchOrder (k:Nat) (a0:(List Int)) (a1:(List Int)) (a2:(List Int)) (a3:(List Int)):Option (Bool) :=
  Option.bind (law12_Small k [] a0) fun rs=>Option.bind (law15_SearchOrder_l0 k [a1,a2,a3] rs.2 k [] 0) fun ox=>gd ((0:Int)≤0∧0 < 3) (Option.bind (idx ox 0) fun y26=>gd ((0:Int)≤1∧1 < 3) (Option.bind (idx ox 1) fun y29=>Option.bind (search_Better k rs.2 y26 y29) fun r31=>gd ((0:Int)≤1∧1 < 3) (Option.bind (idx ox 1) fun y34=>gd ((0:Int)≤2∧2 < 3) (Option.bind (idx ox 2) fun y37=>Option.bind (search_Better k rs.2 y34 y37) fun r39=>gd ((0:Int)≤0∧0 < 3) (Option.bind (idx ox 0) fun y42=>gd ((0:Int)≤2∧2 < 3) (Option.bind (idx ox 2) fun y45=>Option.bind (search_Better k rs.2 y42 y45) fun r47=>gd ((0:Int)≤0∧0 < 3) (Option.bind (idx ox 0) fun y50=>gd ((0:Int)≤1∧1 < 3) (Option.bind (idx ox 1) fun y53=>Option.bind (ref6_SameInts k y50 y53) fun r55=>Option.bind (law15_told k ) fun r57=>cond r57 (gd ((0:Int)≤0∧0 < 3) (Option.bind (idx ox 0) fun y61=>gd ((0:Int)≤0∧0 < 3) (Option.bind (idx ox 0) fun y64=>Option.bind (search_Better k rs.2 y61 y64) fun r66=>cond (!r66) (cond r31 (cond (true == (!r55)) (gd ((0:Int)≤1∧1 < 3) (Option.bind (idx ox 1) fun y72=>gd ((0:Int)≤0∧0 < 3) (Option.bind (idx ox 0) fun y75=>Option.bind (search_Better k rs.2 y72 y75) fun r77=>cond (!r77) (cond (!r31) (some true) (cond (!r39) (some true) (some r47))) (some false)))) (some false)) (gd ((0:Int)≤1∧1 < 3) (Option.bind (idx ox 1) fun y83=>gd ((0:Int)≤0∧0 < 3) (Option.bind (idx ox 0) fun y86=>Option.bind (search_Better k rs.2 y83 y86) fun r88=>cond (r88 == (!r55)) (cond (!false) (cond (!r31) (some true) (cond (!r39) (some true) (some r47))) (some false)) (some false))))) (some false)))) (some false)))))))))
end Go.Px
