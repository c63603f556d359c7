/- The functions of this seat's laws as plain Lean functions (no memory and no Go in them). -/
import Derived.Test.YtlfpkjlaajfjnaaShU
set_option linter.unusedVariables false
set_option linter.unusedSimpArgs false
set_option maxRecDepth 100000
namespace Go.Px
open Go Go.Sh
structure Seat where
  Row : Int
  X : Int
  Y : Int
  Kind : Int
deriving DecidableEq, Inhabited
structure Pole where
  X : Int
  Y : Int
  R : Int
deriving DecidableEq, Inhabited
structure Party where
  Size : Int
  Wheels : Int
deriving DecidableEq, Inhabited
structure Pin where
  Party : Int
  First : Int
deriving DecidableEq, Inhabited
structure Venue where
  Seats : (List Seat)
  Gap : Int
  Radius : Int
  Kills : (List Int)
  Poles : (List Pole)
deriving DecidableEq, Inhabited
structure PlaceHall where
  V : Venue
  usable : (List Bool)
deriving DecidableEq, Inhabited
structure Ref6Hall where
  V : Venue
  U : (List Bool)
deriving DecidableEq, Inhabited
structure PlanSet where
  H : PlaceHall
  L : (List Party)
  Pins : (List (Int × Int))
deriving DecidableEq, Inhabited
structure BoundState where
  V : Venue
  L : (List Party)
  Pins : (List Pin)
  Plan : (List Int)
deriving DecidableEq, Inhabited
def eSeat (x : Seat) : SV := .agg [.v (.int .i64 x.Row), .v (.int .i64 x.X), .v (.int .i64 x.Y), .v (.int .i64 x.Kind)]
theorem enc_Seat : Enc eSeat 4 := ⟨fun a => ⟨rfl, rfl, rfl⟩⟩
theorem fl_Seat : ∀ a, ∀ y, y ∈ (eSeat a).cells → flat1 y = true := fl_of fun a => rfl
def eI (x : Int) : SV := .v (.int .i64 x)
theorem enc_I : Enc eI 1 := ⟨fun a => ⟨rfl, rfl, rfl⟩⟩
theorem fl_I : ∀ a, ∀ y, y ∈ (eI a).cells → flat1 y = true := fl_of fun a => rfl
def ePole (x : Pole) : SV := .agg [.v (.int .i64 x.X), .v (.int .i64 x.Y), .v (.int .i64 x.R)]
theorem enc_Pole : Enc ePole 3 := ⟨fun a => ⟨rfl, rfl, rfl⟩⟩
theorem fl_Pole : ∀ a, ∀ y, y ∈ (ePole a).cells → flat1 y = true := fl_of fun a => rfl
def eB (x : Bool) : SV := .v (.bool x)
theorem enc_B : Enc eB 1 := ⟨fun a => ⟨rfl, rfl, rfl⟩⟩
theorem fl_B : ∀ a, ∀ y, y ∈ (eB a).cells → flat1 y = true := fl_of fun a => rfl
def eParty (x : Party) : SV := .agg [.v (.int .i64 x.Size), .v (.int .i64 x.Wheels)]
theorem enc_Party : Enc eParty 2 := ⟨fun a => ⟨rfl, rfl, rfl⟩⟩
theorem fl_Party : ∀ a, ∀ y, y ∈ (eParty a).cells → flat1 y = true := fl_of fun a => rfl
def ePin (x : Pin) : SV := .agg [.v (.int .i64 x.Party), .v (.int .i64 x.First)]
theorem enc_Pin : Enc ePin 2 := ⟨fun a => ⟨rfl, rfl, rfl⟩⟩
abbrev cPlanSet (x : PlanSet) : List SV := [.lst (List.map eSeat x.H.V.Seats), .v (.int .i64 x.H.V.Gap), .v (.int .i64 x.H.V.Radius), .lst (List.map eI x.H.V.Kills), .lst (List.map ePole x.H.V.Poles), .lst (List.map eB x.H.usable), .lst (List.map eParty x.L), .mp x.Pins]
abbrev cPlaceHall (x : PlaceHall) : List SV := [.lst (List.map eSeat x.V.Seats), .v (.int .i64 x.V.Gap), .v (.int .i64 x.V.Radius), .lst (List.map eI x.V.Kills), .lst (List.map ePole x.V.Poles), .lst (List.map eB x.usable)]
abbrev cVenue (x : Venue) : List SV := [.lst (List.map eSeat x.Seats), .v (.int .i64 x.Gap), .v (.int .i64 x.Radius), .lst (List.map eI x.Kills), .lst (List.map ePole x.Poles)]
abbrev cSeat (x : Seat) : List SV := [.v (.int .i64 x.Row), .v (.int .i64 x.X), .v (.int .i64 x.Y), .v (.int .i64 x.Kind)]
abbrev cPole (x : Pole) : List SV := [.v (.int .i64 x.X), .v (.int .i64 x.Y), .v (.int .i64 x.R)]
abbrev cParty (x : Party) : List SV := [.v (.int .i64 x.Size), .v (.int .i64 x.Wheels)]
abbrev cPin (x : Pin) : List SV := [.v (.int .i64 x.Party), .v (.int .i64 x.First)]
def okI (x : Int) : Prop := -9223372036854775808 ≤ x ∧ x ≤ 9223372036854775807
def okLI (x : (List Int)) : Prop := x.length ≤ maxLen ∧ ∀ y, y ∈ x → okI y
def venue_in (k : Nat) (a0 : Int) (a1 : Int) (a2 : Int) : Option (Bool) :=
  cond (decide (a1 ≤ a0)) (some (decide (a0 ≤ a2))) (some false)
def venue_Row (k : Nat) (a0 : Int) : Option (Bool) :=
  Option.bind (venue_in k a0 0 999) fun r1 => some r1
def venue_Coord (k : Nat) (a0 : Int) : Option (Bool) :=
  Option.bind (venue_in k a0 (-1048576) 1048576) fun r1 => some r1
def venue_seat (k : Nat) (a0 : Seat) : Option (Bool) :=
  cond (decide (a0.Kind = 0)) (Option.bind (venue_Row k a0.Row) fun r2 => cond r2 (Option.bind (venue_Coord k a0.X) fun r5 => cond r5 (Option.bind (venue_Coord k a0.Y) fun r8 => some r8) (some false)) (some false)) (cond (decide (a0.Kind = 1)) (Option.bind (venue_Row k a0.Row) fun r11 => cond r11 (Option.bind (venue_Coord k a0.X) fun r14 => cond r14 (Option.bind (venue_Coord k a0.Y) fun r17 => some r17) (some false)) (some false)) (cond (decide (a0.Kind = 2)) (Option.bind (venue_Row k a0.Row) fun r20 => cond r20 (Option.bind (venue_Coord k a0.X) fun r23 => cond r23 (Option.bind (venue_Coord k a0.Y) fun r26 => some r26) (some false)) (some false)) (some false)))
def venue_Less (k : Nat) (a0 : Seat) (a1 : Seat) : Option (Bool) :=
  cond (decide (a0.Row < a1.Row)) (some true) (cond (decide (a0.Row = a1.Row)) (some (decide (a0.X < a1.X))) (some false))
def venue_seats_l0 (k : Nat) (a0 : (List Seat)) : Nat → Int → Option (Ex (Unit) (Bool))
  | 0, _ => none
  | n + 1, v30 => cond (decide (v30 < (a0.length : Int))) (Option.bind (idx a0 v30) fun y32 => Option.bind (venue_seat k y32) fun r42 => cond (!r42) (some (Ex.rt false)) (cond (decide (0 < v30)) (Option.bind (idx a0 (wr (v30 - 1))) fun y47 => Option.bind (venue_Less k y47 y32) fun r49 => cond (!r49) (some (Ex.rt false)) (venue_seats_l0 k a0 n (wr (v30 + 1)))) (venue_seats_l0 k a0 n (wr (v30 + 1))))) (some (Ex.go ()))
def venue_seats (k : Nat) (a0 : (List Seat)) : Option (Bool) :=
  Option.bind (venue_seats_l0 k a0 k 0) fun o26 => Ex.elim o26 (fun v29 => cond (decide (0 < (a0.length : Int))) (some (decide ((a0.length : Int) ≤ 4096))) (some false)) (fun rr => some rr)
def venue_Reach (k : Nat) (a0 : Int) : Option (Bool) :=
  Option.bind (venue_in k a0 1 1048576) fun r1 => some r1
def venue_kills_l0 (k : Nat) (a0 : (List Int)) (a1 : Int) : Nat → Int → Option (Ex (Unit) (Bool))
  | 0, _ => none
  | n + 1, v24 => cond (decide (v24 < (a0.length : Int))) (Option.bind (idx a0 v24) fun y26 => cond (decide (y26 < 0)) (some (Ex.rt false)) (cond (decide (a1 ≤ y26)) (some (Ex.rt false)) (cond (decide (0 < v24)) (Option.bind (idx a0 (wr (v24 - 1))) fun y33 => cond (decide (y26 ≤ y33)) (some (Ex.rt false)) (venue_kills_l0 k a0 a1 n (wr (v24 + 1)))) (venue_kills_l0 k a0 a1 n (wr (v24 + 1)))))) (some (Ex.go ()))
def venue_kills (k : Nat) (a0 : (List Int)) (a1 : Int) : Option (Bool) :=
  Option.bind (venue_kills_l0 k a0 a1 k 0) fun o20 => Ex.elim o20 (fun v23 => some (decide ((a0.length : Int) ≤ 200))) (fun rr => some rr)
def venue_poles_l0 (k : Nat) (a0 : (List Pole)) : Nat → Int → Option (Ex (Unit) (Bool))
  | 0, _ => none
  | n + 1, v30 => cond (decide (v30 < (a0.length : Int))) (Option.bind (idx a0 v30) fun y32 => Option.bind (venue_Coord k y32.X) fun r34 => cond (!r34) (some (Ex.rt false)) (Option.bind (venue_Coord k y32.Y) fun r38 => cond (!r38) (some (Ex.rt false)) (Option.bind (venue_Reach k y32.R) fun r42 => cond (!r42) (some (Ex.rt false)) (venue_poles_l0 k a0 n (wr (v30 + 1)))))) (some (Ex.go ()))
def venue_poles (k : Nat) (a0 : (List Pole)) : Option (Bool) :=
  Option.bind (venue_poles_l0 k a0 k 0) fun o26 => Ex.elim o26 (fun v29 => some (decide ((a0.length : Int) ≤ 200))) (fun rr => some rr)
def venue_Wrong (k : Nat) (a0 : Venue) : Option (ByteArray) :=
  Option.bind (venue_seats k a0.Seats) fun r1 => cond (!r1) (some (⟨#[115, 101, 97, 116, 115]⟩ : ByteArray)) (Option.bind (venue_Reach k a0.Gap) fun r4 => cond (!r4) (some (⟨#[103, 97, 112]⟩ : ByteArray)) (Option.bind (venue_in k a0.Radius 0 1048576) fun r7 => cond (!r7) (some (⟨#[114, 97, 100, 105, 117, 115]⟩ : ByteArray)) (Option.bind (venue_kills k a0.Kills (a0.Seats.length : Int)) fun r10 => cond (!r10) (some (⟨#[107, 105, 108, 108, 115]⟩ : ByteArray)) (Option.bind (venue_poles k a0.Poles) fun r13 => cond (!r13) (some (⟨#[112, 111, 108, 101, 115]⟩ : ByteArray)) (some (⟨#[]⟩ : ByteArray))))))
def venue_May (k : Nat) (a0 : Venue) : Option (Bool) :=
  Option.bind (venue_Wrong k a0) fun r1 => some (r1 == (⟨#[]⟩ : ByteArray))
def geom_Far_l0 (k : Nat) (a0 : Seat) (a1 : Seat) : Nat → Int → Option (Ex (Unit) (Int))
  | 0, _ => none
  | n + 1, v24 => cond (decide (v24 < (([a0, a1]).length : Int))) (Option.bind (idx [a0, a1] v24) fun y26 => Option.bind (venue_Coord k y26.X) fun r28 => cond (!r28) (some (Ex.rt 0)) (Option.bind (venue_Coord k y26.Y) fun r32 => cond (!r32) (some (Ex.rt 0)) (geom_Far_l0 k a0 a1 n (wr (v24 + 1))))) (some (Ex.go ()))
def geom_Far (k : Nat) (a0 : Seat) (a1 : Seat) : Option (Int) :=
  Option.bind (geom_Far_l0 k a0 a1 k 0) fun o20 => Ex.elim o20 (fun v23 => some (wr ((wr ((wr (a0.X - a1.X)) * (wr (a0.X - a1.X)))) + (wr ((wr (a0.Y - a1.Y)) * (wr (a0.Y - a1.Y))))))) (fun rr => some rr)
def geom_Close (k : Nat) (a0 : Seat) (a1 : Seat) (a2 : Int) : Option (Bool) :=
  Option.bind (geom_Far k a0 a1) fun r1 => some (decide (r1 < (wr (a2 * a2))))
def ref6_coord (k : Nat) (a0 : Int) : Option (Bool) :=
  cond (decide ((-1048576) ≤ a0)) (some (decide (a0 ≤ 1048576))) (some false)
def ref6_square (k : Nat) (a0 : Int) (a1 : Int) : Option (Int) :=
  some (wr ((wr (a0 - a1)) * (wr (a0 - a1))))
def ref6_Far (k : Nat) (a0 : Seat) (a1 : Seat) : Option (Int) :=
  Option.bind (ref6_coord k a0.X) fun r1 => cond (!r1) (some 0) (Option.bind (ref6_coord k a0.Y) fun r4 => cond (!r4) (some 0) (Option.bind (ref6_coord k a1.X) fun r7 => cond (!r7) (some 0) (Option.bind (ref6_coord k a1.Y) fun r10 => cond (!r10) (some 0) (Option.bind (ref6_square k a0.X a1.X) fun r17 => Option.bind (ref6_square k a0.Y a1.Y) fun r19 => some (wr (r17 + r19))))))
def ref2_in (k : Nat) (a0 : Int) (a1 : Int) (a2 : Int) : Option (Bool) :=
  cond (decide (a1 ≤ a0)) (some (decide (a0 ≤ a2))) (some false)
def ref2_coord (k : Nat) (a0 : Int) : Option (Bool) :=
  Option.bind (ref2_in k a0 (-1048576) 1048576) fun r1 => some r1
def ref2_Less (k : Nat) (a0 : Seat) (a1 : Seat) : Option (Bool) :=
  cond (decide (a0.Row < a1.Row)) (some true) (cond (decide (a0.Row = a1.Row)) (some (decide (a0.X < a1.X))) (some false))
def ref2_seats_l0 (k : Nat) (a0 : (List Seat)) : Nat → Int → Option (Ex (Unit) (Bool))
  | 0, _ => none
  | n + 1, v48 => cond (decide (v48 < (a0.length : Int))) (Option.bind (idx a0 v48) fun y50 => Option.bind (ref2_in k y50.Row 0 999) fun r69 => cond (!r69) (some (Ex.rt false)) (Option.bind (ref2_coord k y50.X) fun r73 => cond (!r73) (some (Ex.rt false)) (Option.bind (ref2_coord k y50.Y) fun r77 => cond (!r77) (some (Ex.rt false)) (Option.bind (ref2_in k y50.Kind 0 2) fun r81 => cond (!r81) (some (Ex.rt false)) (cond (decide (0 < v48)) (Option.bind (idx a0 (wr (v48 - 1))) fun y86 => Option.bind (ref2_Less k y86 y50) fun r88 => cond (!r88) (some (Ex.rt false)) (ref2_seats_l0 k a0 n (wr (v48 + 1)))) (ref2_seats_l0 k a0 n (wr (v48 + 1)))))))) (some (Ex.go ()))
def ref2_seats (k : Nat) (a0 : (List Seat)) : Option (Bool) :=
  Option.bind (ref2_seats_l0 k a0 k 0) fun o44 => Ex.elim o44 (fun v47 => cond (decide (1 ≤ (a0.length : Int))) (some (decide ((a0.length : Int) ≤ 4096))) (some false)) (fun rr => some rr)
def ref2_kills_l0 (k : Nat) (a0 : (List Int)) (a1 : Int) : Nat → Int → Option (Ex (Unit) (Bool))
  | 0, _ => none
  | n + 1, v30 => cond (decide (v30 < (a0.length : Int))) (Option.bind (idx a0 v30) fun y42 => Option.bind (ref2_in k y42 0 (wr (a1 - 1))) fun r44 => cond (!r44) (some (Ex.rt false)) (cond (decide (0 < v30)) (Option.bind (idx a0 v30) fun y49 => Option.bind (idx a0 (wr (v30 - 1))) fun y51 => cond (decide (y49 ≤ y51)) (some (Ex.rt false)) (ref2_kills_l0 k a0 a1 n (wr (v30 + 1)))) (ref2_kills_l0 k a0 a1 n (wr (v30 + 1))))) (some (Ex.go ()))
def ref2_kills (k : Nat) (a0 : (List Int)) (a1 : Int) : Option (Bool) :=
  Option.bind (ref2_kills_l0 k a0 a1 k 0) fun o26 => Ex.elim o26 (fun v29 => some (decide ((a0.length : Int) ≤ 200))) (fun rr => some rr)
def ref2_poles_l0 (k : Nat) (a0 : (List Pole)) : Nat → Int → Option (Ex (Unit) (Bool))
  | 0, _ => none
  | n + 1, v38 => cond (decide (v38 < (a0.length : Int))) (Option.bind (idx a0 v38) fun y40 => Option.bind (ref2_coord k y40.X) fun r42 => cond (!r42) (some (Ex.rt false)) (Option.bind (idx a0 v38) fun y46 => Option.bind (ref2_coord k y46.Y) fun r48 => cond (!r48) (some (Ex.rt false)) (Option.bind (idx a0 v38) fun y52 => Option.bind (ref2_in k y52.R 1 1048576) fun r54 => cond (!r54) (some (Ex.rt false)) (ref2_poles_l0 k a0 n (wr (v38 + 1)))))) (some (Ex.go ()))
def ref2_poles (k : Nat) (a0 : (List Pole)) : Option (Bool) :=
  Option.bind (ref2_poles_l0 k a0 k 0) fun o34 => Ex.elim o34 (fun v37 => some (decide ((a0.length : Int) ≤ 200))) (fun rr => some rr)
def ref2_Wrong (k : Nat) (a0 : Venue) : Option (ByteArray) :=
  Option.bind (ref2_seats k a0.Seats) fun r1 => cond (!r1) (some (⟨#[115, 101, 97, 116, 115]⟩ : ByteArray)) (Option.bind (ref2_in k a0.Gap 1 1048576) fun r4 => cond (!r4) (some (⟨#[103, 97, 112]⟩ : ByteArray)) (Option.bind (ref2_in k a0.Radius 0 1048576) fun r7 => cond (!r7) (some (⟨#[114, 97, 100, 105, 117, 115]⟩ : ByteArray)) (Option.bind (ref2_kills k a0.Kills (a0.Seats.length : Int)) fun r10 => cond (!r10) (some (⟨#[107, 105, 108, 108, 115]⟩ : ByteArray)) (Option.bind (ref2_poles k a0.Poles) fun r13 => cond (!r13) (some (⟨#[112, 111, 108, 101, 115]⟩ : ByteArray)) (some (⟨#[]⟩ : ByteArray))))))
def ref2_May (k : Nat) (a0 : Venue) : Option (Bool) :=
  Option.bind (ref2_Wrong k a0) fun r1 => some (r1 == (⟨#[]⟩ : ByteArray))
def ref6_seat (k : Nat) (a0 : Venue) (a1 : Int) : Option (Bool) :=
  cond (decide (0 ≤ a1)) (some (decide (a1 < (a0.Seats.length : Int)))) (some false)
def ref6_clash (k : Nat) (a0 : Venue) (a1 : Int) (a2 : Int) : Option (Bool) :=
  Option.bind (ref6_seat k a0 a1) fun r16 => cond r16 (Option.bind (ref6_seat k a0 a2) fun r19 => cond r19 (cond (!decide (a1 = a2)) (Option.bind (idx a0.Seats a1) fun y23 => Option.bind (idx a0.Seats a2) fun y25 => Option.bind (ref6_Far k y23 y25) fun r27 => Option.bind (ref6_square k a0.Radius 0) fun r29 => some (decide (r27 < r29))) (some false)) (some false)) (some false)
def ref6_Clash (k : Nat) (a0 : Venue) (a1 : Int) (a2 : Int) : Option (Bool) :=
  Option.bind (ref2_May k a0) fun r1 => cond r1 (Option.bind (ref6_clash k a0 a1 a2) fun r4 => some r4) (some false)
def ref6_SameInts_l0 (k : Nat) (a0 : (List Int)) (a1 : (List Int)) : Nat → Int → Option (Ex (Unit) (Bool))
  | 0, _ => none
  | n + 1, v19 => cond (decide (v19 < (a0.length : Int))) (Option.bind (idx a0 v19) fun y25 => Option.bind (idx a1 v19) fun y27 => cond (!decide (y25 = y27)) (some (Ex.rt false)) (ref6_SameInts_l0 k a0 a1 n (wr (v19 + 1)))) (some (Ex.go ()))
def ref6_SameInts (k : Nat) (a0 : (List Int)) (a1 : (List Int)) : Option (Bool) :=
  cond (!decide ((a0.length : Int) = (a1.length : Int))) (some false) (Option.bind (ref6_SameInts_l0 k a0 a1 k 0) fun o15 => Ex.elim o15 (fun v18 => some true) (fun rr => some rr))
def law3_Make_l0 (k : Nat) (a0 : (List Int)) (a1 : Int) : Nat → (List Seat) → Int → (List Int) → (List Pole) → Int → Int → Int → Option ((List Seat) × Int × (List Int) × (List Pole))
  | 0, _, _, _, _, _, _, _ => none
  | n + 1, v91, v92, v93, v94, v95, v96, v97 => Option.bind (cond (decide (v97 < (a0.length : Int))) (some (decide ((v91.length : Int) < a1))) (some false)) fun o99 => cond o99 (Option.bind (idx a0 v97) fun y104 => Option.bind (cond (decide (((IntKind.u64.wrap y104).tmod 7) = 0)) (some (wr (v95 + 1), 0)) (cond (decide (((IntKind.u64.wrap y104).tmod 7) = 1)) (some (v95, wr ((wr (v96 + 10)) + 5))) (some (v95, wr (v96 + 10))))) fun o108 => Option.bind (cond (decide (((IntKind.u64.wrap ((IntKind.u64.wrap y104).tdiv 7)).tmod 6) = 0)) (some 1) (cond (decide (((IntKind.u64.wrap ((IntKind.u64.wrap y104).tdiv 7)).tmod 6) = 1)) (some 2) (cond (decide (((IntKind.u64.wrap ((IntKind.u64.wrap y104).tdiv 7)).tmod 6) = 2)) (some 2) (some 0)))) fun o116 => gd (decide (v91.length + ([Seat.mk o108.1 o108.2 (wr (10 * o108.1)) o116]).length ≤ 4294967296)) (Option.bind (cond (decide (((IntKind.u64.wrap ((IntKind.u64.wrap y104).tdiv 42)).tmod 9) = 0)) (gd (decide (v93.length + ([wr (((v91 ++ [Seat.mk o108.1 o108.2 (wr (10 * o108.1)) o116]).length : Int) - 1)]).length ≤ 4294967296)) (some (v93 ++ [wr (((v91 ++ [Seat.mk o108.1 o108.2 (wr (10 * o108.1)) o116]).length : Int) - 1)]))) (some v93)) fun o125 => Option.bind (cond (decide (((IntKind.u64.wrap ((IntKind.u64.wrap y104).tdiv 42)).tmod 11) = 1)) (gd (decide (v94.length + ([Pole.mk o108.2 (wr (10 * o108.1)) (wr (1 + (wr ((IntKind.u64.wrap ((IntKind.u64.wrap y104).tdiv 500)).tmod 12))))]).length ≤ 4294967296)) (some (v94 ++ [Pole.mk o108.2 (wr (10 * o108.1)) (wr (1 + (wr ((IntKind.u64.wrap ((IntKind.u64.wrap y104).tdiv 500)).tmod 12))))]))) (some v94)) fun o132 => cond (decide (((IntKind.u64.wrap ((IntKind.u64.wrap y104).tdiv 42)).tmod 5) = 3)) (law3_Make_l0 k a0 a1 n (v91 ++ [Seat.mk o108.1 o108.2 (wr (10 * o108.1)) o116]) (wr ((IntKind.u64.wrap ((IntKind.u64.wrap y104).tdiv 300)).tmod 25)) o125 o132 o108.1 o108.2 (wr (v97 + 1))) (law3_Make_l0 k a0 a1 n (v91 ++ [Seat.mk o108.1 o108.2 (wr (10 * o108.1)) o116]) v92 o125 o132 o108.1 o108.2 (wr (v97 + 1))))) (some (v91, v92, v93, v94))
def law3_Make (k : Nat) (a0 : (List Int)) (a1 : Int) : Option (Venue) :=
  Option.bind (law3_Make_l0 k a0 a1 k [Seat.mk 0 0 0 0] 0 [] [] 0 0 0) fun o88 => some (Venue.mk o88.1 10 o88.2.1 o88.2.2.1 o88.2.2.2)
def run_free (k : Nat) (a0 : Venue) (a1 : (List Bool)) (a2 : Int) : Option (Bool) :=
  cond (decide (a2 < 0)) (some false) (cond (decide ((a0.Seats.length : Int) ≤ a2)) (some false) (cond (decide ((a1.length : Int) ≤ a2)) (some false) (Option.bind (idx a1 a2) fun y4 => some y4)))
def run_next (k : Nat) (a0 : Venue) (a1 : Int) : Option (Bool) :=
  cond (decide (0 ≤ a1)) (cond (decide (a1 < (wr ((a0.Seats.length : Int) - 1)))) (Option.bind (idx a0.Seats (wr (a1 + 1))) fun y14 => Option.bind (idx a0.Seats a1) fun y16 => cond (decide (y14.Row = y16.Row)) (Option.bind (idx a0.Seats (wr (a1 + 1))) fun y19 => Option.bind (idx a0.Seats a1) fun y21 => some (decide ((wr (y19.X - y21.X)) ≤ a0.Gap))) (some false)) (some false)) (some false)
def run_long_l0 (k : Nat) (a0 : Venue) (a1 : (List Bool)) (a2 : Int) (a3 : Int) : Nat → Int → Option (Int)
  | 0, _ => none
  | n + 1, v21 => cond (decide (v21 < a3)) (Option.bind (run_free k a0 a1 (wr (a2 + v21))) fun r23 => cond r23 (cond (decide (v21 = 0)) (run_long_l0 k a0 a1 a2 a3 n (wr (v21 + 1))) (Option.bind (run_next k a0 (wr ((wr (a2 + v21)) - 1))) fun r27 => cond r27 (run_long_l0 k a0 a1 a2 a3 n (wr (v21 + 1))) (some v21))) (some v21)) (some v21)
def run_long (k : Nat) (a0 : Venue) (a1 : (List Bool)) (a2 : Int) (a3 : Int) : Option (Int) :=
  Option.bind (run_long_l0 k a0 a1 a2 a3 k 0) fun o18 => some o18
def run_piece_l0 (k : Nat) (a0 : Int) (a1 : Int) : Nat → (List Int) → Int → Option ((List Int))
  | 0, _, _ => none
  | n + 1, v10, v11 => cond (decide (v11 < a1)) (gd (decide (v10.length + ([wr (a0 + v11)]).length ≤ 4294967296)) (run_piece_l0 k a0 a1 n (v10 ++ [wr (a0 + v11)]) (wr (v11 + 1)))) (some v10)
def run_piece (k : Nat) (a0 : Int) (a1 : Int) : Option ((List Int)) :=
  Option.bind (run_piece_l0 k a0 a1 k [] 0) fun o7 => some o7
def run_Take (k : Nat) (a0 : Venue) (a1 : (List Bool)) (a2 : Int) (a3 : Int) : Option ((List Int) × Bool) :=
  cond (decide (a3 < 1)) (some ([], false)) (cond (decide ((a0.Seats.length : Int) < a3)) (some ([], false)) (Option.bind (run_long k a0 a1 a2 a3) fun r3 => cond (decide (r3 < a3)) (some ([], false)) (Option.bind (run_piece k a2 a3) fun r6 => some (r6, true))))
def ref6_is (k : Nat) (a0 : (List Bool)) (a1 : Int) : Option (Bool) :=
  cond (decide (0 ≤ a1)) (cond (decide (a1 < (a0.length : Int))) (Option.bind (idx a0 a1) fun y3 => some y3) (some false)) (some false)
def ref6_next (k : Nat) (a0 : Venue) (a1 : Int) : Option (Bool) :=
  Option.bind (ref6_seat k a0 a1) fun r16 => cond r16 (Option.bind (ref6_seat k a0 (wr (a1 + 1))) fun r19 => cond r19 (Option.bind (idx a0.Seats a1) fun y22 => Option.bind (idx a0.Seats (wr (a1 + 1))) fun y24 => cond (decide (y22.Row = y24.Row)) (Option.bind (idx a0.Seats (wr (a1 + 1))) fun y27 => Option.bind (idx a0.Seats a1) fun y29 => some (decide ((wr (y27.X - y29.X)) ≤ a0.Gap))) (some false)) (some false)) (some false)
def ref6_long_l0 (k : Nat) (a0 : Venue) (a1 : (List Bool)) (a2 : Int) : Nat → Int → Option (Int)
  | 0, _ => none
  | n + 1, v31 => Option.bind (ref6_next k a0 (wr ((wr (a2 + v31)) - 1))) fun r32 => cond r32 (Option.bind (ref6_is k a1 (wr (a2 + v31))) fun r35 => cond r35 (ref6_long_l0 k a0 a1 a2 n (wr (v31 + 1))) (some v31)) (some v31)
def ref6_long (k : Nat) (a0 : Venue) (a1 : (List Bool)) (a2 : Int) : Option (Int) :=
  Option.bind (Option.bind (ref6_seat k a0 a2) fun r9 => cond (!r9) (some true) (Option.bind (ref6_is k a1 a2) fun r12 => some (!r12))) fun o6 => cond o6 (some 0) (Option.bind (ref6_long_l0 k a0 a1 a2 k 1) fun o28 => some o28)
def slices_Index_int_l0 (k : Nat) (a0 : (List Int)) (a1 : Int) : Nat → Int → Option (Ex (Unit) (Int))
  | 0, _ => none
  | n + 1, v14 => cond (decide (v14 < (a0.length : Int))) (Option.bind (idx a0 v14) fun y16 => cond (decide (a1 = y16)) (some (Ex.rt v14)) (slices_Index_int_l0 k a0 a1 n (wr (v14 + 1)))) (some (Ex.go ()))
def slices_Index_int (k : Nat) (a0 : (List Int)) (a1 : Int) : Option (Int) :=
  Option.bind (slices_Index_int_l0 k a0 a1 k 0) fun o10 => Ex.elim o10 (fun v13 => some (-1)) (fun rr => some rr)
def slices_Contains_int (k : Nat) (a0 : (List Int)) (a1 : Int) : Option (Bool) :=
  Option.bind (slices_Index_int k a0 a1) fun r1 => some (decide (0 ≤ r1))
def kill_by_l0 (k : Nat) (a0 : Venue) (a1 : Int) : Nat → (List Int) → Int → Option ((List Int))
  | 0, _, _ => none
  | n + 1, v33, v34 => cond (decide (v34 < (a0.Poles.length : Int))) (Option.bind (idx a0.Poles v34) fun y36 => Option.bind (idx a0.Seats a1) fun y42 => Option.bind (geom_Close k y42 (Seat.mk 0 y36.X y36.Y 0) y36.R) fun r44 => cond r44 (gd (decide (v33.length + ([v34]).length ≤ 4294967296)) (kill_by_l0 k a0 a1 n (v33 ++ [v34]) (wr (v34 + 1)))) (kill_by_l0 k a0 a1 n v33 (wr (v34 + 1)))) (some v33)
def kill_by (k : Nat) (a0 : Venue) (a1 : Int) : Option ((List Int)) :=
  Option.bind (slices_Contains_int k a0.Kills a1) fun r1 => Option.bind (cond r1 (gd (decide ((([(-1)] : List Int)).length ≤ 4294967296)) (some ([(-1)] : List Int))) (some [])) fun o5 => Option.bind (kill_by_l0 k a0 a1 k o5 0) fun o30 => some o30
def kill_Usable_l0 (k : Nat) (a0 : Venue) : Nat → (List Bool) → Int → Option ((List Bool))
  | 0, _, _ => none
  | n + 1, v20, v21 => cond (decide (v21 < ((List.replicate (a0.Seats.length : Int).toNat false).length : Int))) (Option.bind (kill_by k a0 v21) fun r23 => Option.bind (idx v20 v21) fun y25 => kill_Usable_l0 k a0 n (v20.set v21.toNat (decide ((r23.length : Int) = 0))) (wr (v21 + 1))) (some v20)
def kill_Usable (k : Nat) (a0 : Venue) : Option ((List Bool)) :=
  Option.bind (venue_May k a0) fun r1 => cond (!r1) (some []) (gd (decide ((0 : Int) ≤ (a0.Seats.length : Int) ∧ (a0.Seats.length : Int) ≤ 4294967296)) (Option.bind (kill_Usable_l0 k a0 k (List.replicate (a0.Seats.length : Int).toNat false) 0) fun o17 => some o17))
def place_In (k : Nat) (a0 : Venue) : Option (PlaceHall × Bool) :=
  Option.bind (kill_Usable k a0) fun r5 => Option.bind (venue_May k a0) fun r7 => some (PlaceHall.mk a0 r5, r7)
def party_May (k : Nat) (a0 : Party) : Option (Bool) :=
  cond (decide (a0.Size < 1)) (some false) (cond (decide (8 < a0.Size)) (some false) (cond (decide (a0.Wheels < 0)) (some false) (cond (decide (a0.Wheels ≤ 2)) (some (decide ((wr (2 * a0.Wheels)) ≤ a0.Size))) (some false))))
def place_Hall_kinds_1 (k : Nat) (a0 : Int) (a1 : (List Int)) (a2 : PlaceHall) : Option (Int) :=
  cond (decide (a0 < 0)) (some 0) (cond (decide ((a1.length : Int) ≤ a0)) (some 0) (Option.bind (idx a1 a0) fun y7 => Option.bind (idx a2.V.Seats y7) fun y9 => some y9.Kind))
def place_Hall_kinds_l0 (k : Nat) (a0 : PlaceHall) (a1 : (List Int)) : Nat → Int → Int → Int → Option (Ex (Int × Int) (Bool))
  | 0, _, _, _ => none
  | n + 1, v30, v31, v32 => cond (decide (v32 < (a1.length : Int))) (Option.bind (place_Hall_kinds_1 k v32 a1 a0) fun r34 => cond (decide (r34 = 1)) (Option.bind (place_Hall_kinds_1 k (wr (v32 - 1)) a1 a0) fun r37 => cond (!decide (r37 = 2)) (Option.bind (place_Hall_kinds_1 k (wr (v32 + 1)) a1 a0) fun r40 => cond (!decide (r40 = 2)) (some (Ex.rt false)) (place_Hall_kinds_l0 k a0 a1 n (wr (v30 + 1)) v31 (wr (v32 + 1)))) (place_Hall_kinds_l0 k a0 a1 n (wr (v30 + 1)) v31 (wr (v32 + 1)))) (cond (decide (r34 = 2)) (place_Hall_kinds_l0 k a0 a1 n v30 (wr (v31 + 1)) (wr (v32 + 1))) (place_Hall_kinds_l0 k a0 a1 n v30 v31 (wr (v32 + 1))))) (some (Ex.go (v30, v31)))
def place_Hall_kinds (k : Nat) (a0 : PlaceHall) (a1 : (List Int)) (a2 : Int) : Option (Bool) :=
  Option.bind (place_Hall_kinds_l0 k a0 a1 k 0 0 0) fun o26 => Ex.elim o26 (fun v29 => cond (decide (a2 = 0)) (cond (decide (0 < v29.2)) (some false) (cond (!decide (v29.1 = a2)) (some false) (some true))) (cond (!decide (v29.1 = a2)) (some false) (some true))) (fun rr => some rr)
def place_Hall_Seats (k : Nat) (a0 : PlaceHall) (a1 : Party) (a2 : Int) : Option ((List Int) × Bool) :=
  Option.bind (party_May k a1) fun r1 => cond (!r1) (some ([], false)) (Option.bind (run_Take k a0.V a0.usable a2 a1.Size) fun r4 => cond (!r4.2) (some ([], false)) (Option.bind (place_Hall_kinds k a0 r4.1 a1.Wheels) fun r7 => cond (!r7) (some ([], false)) (some (r4.1, true))))
def place_Seats (k : Nat) (a0 : Venue) (a1 : Party) (a2 : Int) : Option ((List Int) × Bool) :=
  Option.bind (place_In k a0) fun r1 => cond (!r1.2) (some ([], false)) (Option.bind (place_Hall_Seats k r1.1 a1 a2) fun r4 => some (r4.1, r4.2))
def place_Hall_Apart_l3 (k : Nat) (a0 : PlaceHall) (a3 : Party) (a4 : Int) (v74 : Int) : Nat → Int → Option (Ex (Unit) (Bool))
  | 0, _ => none
  | n + 1, v99 => cond (decide (v99 < (wr (a4 + a3.Size)))) (cond (decide (v74 = v99)) (some (Ex.rt false)) (Option.bind (idx a0.V.Seats v74) fun y111 => Option.bind (idx a0.V.Seats v99) fun y113 => Option.bind (geom_Close k y111 y113 a0.V.Radius) fun r115 => cond r115 (some (Ex.rt false)) (place_Hall_Apart_l3 k a0 a3 a4 v74 n (wr (v99 + 1))))) (some (Ex.go ()))
def place_Hall_Apart_l2 (k : Nat) (a0 : PlaceHall) (a1 : Party) (a2 : Int) (a3 : Party) (a4 : Int) : Nat → Int → Option (Ex (Unit) (Bool))
  | 0, _ => none
  | n + 1, v74 => cond (decide (v74 < (wr (a2 + a1.Size)))) (Option.bind (place_Hall_Apart_l3 k a0 a3 a4 v74 k a4) fun o95 => Ex.elim o95 (fun v98 => place_Hall_Apart_l2 k a0 a1 a2 a3 a4 n (wr (v74 + 1))) (fun rr => some (Ex.rt rr))) (some (Ex.go ()))
def place_Hall_Apart (k : Nat) (a0 : PlaceHall) (a1 : Party) (a2 : Int) (a3 : Party) (a4 : Int) : Option (Bool) :=
  Option.bind (place_Hall_Apart_l2 k a0 a1 a2 a3 a4 k a2) fun o70 => Ex.elim o70 (fun v73 => some true) (fun rr => some rr)
def law12_Small_l0 (k : Nat) (a1 : (List Int)) : Nat → (List Party) → Int → Option ((List Party))
  | 0, _, _ => none
  | n + 1, v46, v47 => cond (decide (v47 < (a1.length : Int))) (cond (decide (v47 < 4)) (Option.bind (idx a1 v47) fun y50 => Option.bind (cond (decide (((IntKind.u64.wrap ((IntKind.u64.wrap y50).tdiv 3)).tmod 4) = 0)) (some (decide (1 < (wr (1 + (wr ((IntKind.u64.wrap y50).tmod 3))))))) (some false)) fun o53 => cond o53 (gd (decide (v46.length + ([Party.mk (wr (1 + (wr ((IntKind.u64.wrap y50).tmod 3)))) 1]).length ≤ 4294967296)) (law12_Small_l0 k a1 n (v46 ++ [Party.mk (wr (1 + (wr ((IntKind.u64.wrap y50).tmod 3)))) 1]) (wr (v47 + 1)))) (gd (decide (v46.length + ([Party.mk (wr (1 + (wr ((IntKind.u64.wrap y50).tmod 3)))) 0]).length ≤ 4294967296)) (law12_Small_l0 k a1 n (v46 ++ [Party.mk (wr (1 + (wr ((IntKind.u64.wrap y50).tmod 3)))) 0]) (wr (v47 + 1))))) (some v46)) (some v46)
def law12_Small (k : Nat) (a0 : (List Int)) (a1 : (List Int)) : Option (Venue × (List Party)) :=
  Option.bind (law3_Make k a0 9) fun r1 => Option.bind (cond (decide (0 < (a1.length : Int))) (Option.bind (idx a1 0) fun y10 => some (!decide ((y10.tmod 3) = 0))) (some false)) fun o6 => Option.bind (cond o6 (some (r1.Radius.tmod 12)) (some r1.Radius)) fun o13 => Option.bind (law12_Small_l0 k a1 k [] 0) fun o43 => some (Venue.mk r1.Seats r1.Gap o13 r1.Kills r1.Poles, o43)
def slices_IndexFunc_Party_l0 (k : Nat) (a0 : (List Party)) (a1_F : (Party → Option Bool)) : Nat → Int → Option (Ex (Unit) (Int))
  | 0, _ => none
  | n + 1, v18 => cond (decide (v18 < (a0.length : Int))) (Option.bind (idx a0 v18) fun y20 => Option.bind (a1_F y20) fun r22 => cond r22 (some (Ex.rt v18)) (slices_IndexFunc_Party_l0 k a0 a1_F n (wr (v18 + 1)))) (some (Ex.go ()))
def slices_IndexFunc_Party (k : Nat) (a0 : (List Party)) (a1_F : Party → Option Bool) : Option (Int) :=
  Option.bind (slices_IndexFunc_Party_l0 k a0 a1_F k 0) fun o14 => Ex.elim o14 (fun v17 => some (-1)) (fun rr => some rr)
def slices_ContainsFunc_Party (k : Nat) (a0 : (List Party)) (a1_F : Party → Option Bool) : Option (Bool) :=
  Option.bind (slices_IndexFunc_Party k a0 a1_F) fun r1 => some (decide (0 ≤ r1))
def party_All_1 (k : Nat) (a0 : Party) : Option (Bool) :=
  Option.bind (party_May k a0) fun r1 => some (!r1)
def party_All (k : Nat) (a0 : (List Party)) : Option (Bool) :=
  cond (decide ((a0.length : Int) ≤ 512)) (Option.bind (slices_ContainsFunc_Party k a0 (fun p4 => party_All_1 k p4)) fun r2 => some (!r2)) (some false)
def plan_In_l3 (k : Nat) (a1 : (List Party)) (r1 : PlaceHall × Bool) (v143 : (List (Int × Int))) (y146 : Pin) (y181 : (List Pin)) : Nat → Int → Option (Ex (Unit) (PlanSet × Bool))
  | 0, _ => none
  | n + 1, v208 => cond (decide (v208 < (y181.length : Int))) (Option.bind (idx y181 v208) fun y210 => Option.bind (idx a1 y146.Party) fun y218 => Option.bind (idx a1 y210.Party) fun y220 => Option.bind (place_Hall_Apart k r1.1 y218 y146.First y220 y210.First) fun r222 => cond (!r222) (some (Ex.rt (PlanSet.mk r1.1 a1 v143, false))) (plan_In_l3 k a1 r1 v143 y146 y181 n (wr (v208 + 1)))) (some (Ex.go ()))
def plan_In_l2 (k : Nat) (a1 : (List Party)) (a2 : (List Pin)) (r1 : PlaceHall × Bool) : Nat → (List (Int × Int)) → Int → Option (Ex ((List (Int × Int))) (PlanSet × Bool))
  | 0, _, _ => none
  | n + 1, v143, v144 => cond (decide (v144 < (a2.length : Int))) (Option.bind (idx a2 v144) fun y146 => Option.bind (cond (decide (0 < v144)) (Option.bind (idx a2 (wr (v144 - 1))) fun y164 => cond (decide (y146.Party ≤ y164.Party)) (some true) (cond (decide (y146.Party < 0)) (some true) (some (decide ((a1.length : Int) ≤ y146.Party))))) (cond (decide (y146.Party < 0)) (some true) (some (decide ((a1.length : Int) ≤ y146.Party))))) fun o154 => cond o154 (some (Ex.rt (PlanSet.mk r1.1 a1 v143, false))) (Option.bind (idx a1 y146.Party) fun y175 => Option.bind (place_Hall_Seats k r1.1 y175 y146.First) fun r177 => cond (!r177.2) (some (Ex.rt (PlanSet.mk r1.1 a1 v143, false))) (Option.bind (slc a2 0 v144) fun y181 => Option.bind (plan_In_l3 k a1 r1 v143 y146 y181 k 0) fun o204 => Ex.elim o204 (fun v207 => plan_In_l2 k a1 a2 r1 n (mset v143 y146.Party y146.First) (wr (v144 + 1))) (fun rr => some (Ex.rt rr))))) (some (Ex.go v143))
def plan_In (k : Nat) (a0 : Venue) (a1 : (List Party)) (a2 : (List Pin)) : Option (PlanSet × Bool) :=
  Option.bind (place_In k a0) fun r1 => Option.bind (cond (!r1.2) (some true) (Option.bind (party_All k a1) fun r10 => some (!r10))) fun o6 => cond o6 (some (PlanSet.mk r1.1 a1 ([] : List (Int × Int)), false)) (Option.bind (plan_In_l2 k a1 a2 r1 k ([] : List (Int × Int)) 0) fun o139 => Ex.elim o139 (fun v142 => some (PlanSet.mk r1.1 a1 v142, true)) (fun rr => some rr))
def plan_Set_wrong_l0 (k : Nat) (a0 : PlanSet) (a1 : (List Int)) (a2 : Int) : Nat → Int → Option (Ex (Unit) (Bool))
  | 0, _ => none
  | n + 1, v62 => cond (decide (v62 < a2)) (Option.bind (idx a1 v62) fun y77 => cond (!decide (y77 = (-1))) (Option.bind (idx a0.L a2) fun y80 => Option.bind (idx a1 a2) fun y82 => Option.bind (idx a0.L v62) fun y84 => Option.bind (idx a1 v62) fun y86 => Option.bind (place_Hall_Apart k a0.H y80 y82 y84 y86) fun r88 => cond (!r88) (some (Ex.rt true)) (plan_Set_wrong_l0 k a0 a1 a2 n (wr (v62 + 1)))) (plan_Set_wrong_l0 k a0 a1 a2 n (wr (v62 + 1)))) (some (Ex.go ()))
def plan_Set_wrong (k : Nat) (a0 : PlanSet) (a1 : (List Int)) (a2 : Int) : Option (Bool) :=
  Option.bind (cond ((mget a0.Pins a2).isSome) (Option.bind (idx a1 a2) fun y8 => some (!decide (y8 = ((mget a0.Pins a2).getD 0)))) (some false)) fun o4 => cond o4 (some true) (Option.bind (idx a1 a2) fun y11 => cond (decide (y11 = (-1))) (some false) (Option.bind (idx a0.L a2) fun y20 => Option.bind (idx a1 a2) fun y22 => Option.bind (place_Hall_Seats k a0.H y20 y22) fun r24 => cond (!r24.2) (some true) (Option.bind (plan_Set_wrong_l0 k a0 a1 a2 k 0) fun o58 => Ex.elim o58 (fun v61 => some false) (fun rr => some rr))))
def plan_Set_First_l0 (k : Nat) (a0 : PlanSet) (a1 : (List Int)) : Nat → Int → Option (Ex (Unit) (Int))
  | 0, _ => none
  | n + 1, v14 => cond (decide (v14 < (a1.length : Int))) (Option.bind (plan_Set_wrong k a0 a1 v14) fun r16 => cond r16 (some (Ex.rt v14)) (plan_Set_First_l0 k a0 a1 n (wr (v14 + 1)))) (some (Ex.go ()))
def plan_Set_First (k : Nat) (a0 : PlanSet) (a1 : (List Int)) : Option (Int) :=
  Option.bind (plan_Set_First_l0 k a0 a1 k 0) fun o10 => Ex.elim o10 (fun v13 => some (-1)) (fun rr => some rr)
def plan_Wrong (k : Nat) (a0 : Venue) (a1 : (List Party)) (a2 : (List Int)) (a3 : (List Pin)) : Option (Int) :=
  Option.bind (plan_In k a0 a1 a3) fun r1 => Option.bind (cond (!r1.2) (some (Ex.rt (a1.length : Int))) (cond (!decide ((a2.length : Int) = (a1.length : Int))) (some (Ex.rt (a1.length : Int))) (some (Ex.go ())))) fun o5 => Ex.elim o5 (fun v8 => Option.bind (plan_Set_First k r1.1 a2) fun r13 => some r13) (fun rr => some rr)
def plan_May (k : Nat) (a0 : Venue) (a1 : (List Party)) (a2 : (List Int)) (a3 : (List Pin)) : Option (Bool) :=
  Option.bind (plan_Wrong k a0 a1 a2 a3) fun r1 => some (decide (r1 = (-1)))
def plan_Seated_l0 (k : Nat) (a0 : (List Party)) (a1 : (List Int)) : Nat → Int → Int → Option (Int)
  | 0, _, _ => none
  | n + 1, v28, v29 => cond (decide (v29 < (a1.length : Int))) (Option.bind (idx a1 v29) fun y31 => cond (decide (0 ≤ y31)) (Option.bind (idx a0 v29) fun y34 => plan_Seated_l0 k a0 a1 n (wr (v28 + y34.Size)) (wr (v29 + 1))) (plan_Seated_l0 k a0 a1 n v28 (wr (v29 + 1)))) (some v28)
def plan_Seated (k : Nat) (a0 : (List Party)) (a1 : (List Int)) : Option (Int) :=
  Option.bind (cond (!decide ((a0.length : Int) = (a1.length : Int))) (some true) (Option.bind (party_All k a0) fun r8 => some (!r8))) fun o4 => cond o4 (some 0) (Option.bind (plan_Seated_l0 k a0 a1 k 0 0) fun o25 => some o25)
def plan_Full_l0 (k : Nat) (a1 : (List Int)) : Nat → Int → Option (Ex (Unit) (Bool))
  | 0, _ => none
  | n + 1, v14 => cond (decide (v14 < (a1.length : Int))) (Option.bind (idx a1 v14) fun y16 => cond (decide (y16 < 0)) (some (Ex.rt false)) (plan_Full_l0 k a1 n (wr (v14 + 1)))) (some (Ex.go ()))
def plan_Full (k : Nat) (a0 : (List Party)) (a1 : (List Int)) : Option (Bool) :=
  Option.bind (plan_Full_l0 k a1 k 0) fun o10 => Ex.elim o10 (fun v13 => some (decide ((a0.length : Int) = (a1.length : Int)))) (fun rr => some rr)
def plan_Owners_l3 (k : Nat) (v59 : Int) (y61 : Int) (y63 : Party) : Nat → (List Int) → Int → Option ((List Int))
  | 0, _, _ => none
  | n + 1, v78, v79 => cond (decide (v79 < y63.Size)) (cond (decide (0 ≤ y61)) (Option.bind (idx v78 (wr (y61 + v79))) fun y82 => plan_Owners_l3 k v59 y61 y63 n (v78.set (wr (y61 + v79)).toNat (wr (v59 + 1))) (wr (v79 + 1))) (plan_Owners_l3 k v59 y61 y63 n v78 (wr (v79 + 1)))) (some v78)
def plan_Owners_l2 (k : Nat) (a1 : (List Party)) (a2 : (List Int)) : Nat → (List Int) → Int → Option ((List Int))
  | 0, _, _ => none
  | n + 1, v58, v59 => cond (decide (v59 < (a2.length : Int))) (Option.bind (idx a2 v59) fun y61 => Option.bind (idx a1 v59) fun y63 => Option.bind (plan_Owners_l3 k v59 y61 y63 k v58 0) fun o75 => plan_Owners_l2 k a1 a2 n o75 (wr (v59 + 1))) (some v58)
def plan_Owners (k : Nat) (a0 : Venue) (a1 : (List Party)) (a2 : (List Int)) : Option ((List Int)) :=
  Option.bind (plan_May k a0 a1 a2 []) fun r1 => cond (!r1) (some []) (gd (decide ((0 : Int) ≤ (a0.Seats.length : Int) ∧ (a0.Seats.length : Int) ≤ 4294967296)) (Option.bind (plan_Owners_l2 k a1 a2 k (List.replicate (a0.Seats.length : Int).toNat (0 : Int)) 0) fun o55 => some o55))
def plan_Pins (k : Nat) (a0 : Venue) (a1 : (List Party)) (a2 : (List Pin)) : Option (Bool) :=
  Option.bind (plan_In k a0 a1 a2) fun r1 => some r1.2
def law12_told (k : Nat)  : Option (Bool) :=
  Option.bind (plan_May k (Venue.mk [Seat.mk 0 0 0 0, Seat.mk 0 10 0 0, Seat.mk 0 20 0 0, Seat.mk 0 30 0 0] 10 0 [] []) [Party.mk 2 0, Party.mk 1 0, Party.mk 1 0] ([0, 2, (-1)] : List Int) [Pin.mk 1 2]) fun r1 => cond r1 (Option.bind (plan_Wrong k (Venue.mk [Seat.mk 0 0 0 0, Seat.mk 0 10 0 0, Seat.mk 0 20 0 0, Seat.mk 0 30 0 0] 10 0 [] []) [Party.mk 2 0, Party.mk 1 0, Party.mk 1 0] ([0, 2, (-1)] : List Int) [Pin.mk 1 2]) fun r4 => cond (decide (r4 = (-1))) (Option.bind (plan_May k (Venue.mk [Seat.mk 0 0 0 0, Seat.mk 0 10 0 0, Seat.mk 0 20 0 0, Seat.mk 0 30 0 0] 10 0 [] []) [Party.mk 2 0, Party.mk 1 0, Party.mk 1 0] ([0, 1, (-1)] : List Int) []) fun r7 => cond (!r7) (Option.bind (plan_Wrong k (Venue.mk [Seat.mk 0 0 0 0, Seat.mk 0 10 0 0, Seat.mk 0 20 0 0, Seat.mk 0 30 0 0] 10 0 [] []) [Party.mk 2 0, Party.mk 1 0, Party.mk 1 0] ([0, 1, (-1)] : List Int) []) fun r10 => cond (decide (r10 = 1)) (Option.bind (plan_Wrong k (Venue.mk [Seat.mk 0 0 0 0, Seat.mk 0 10 0 0, Seat.mk 0 20 0 0, Seat.mk 0 30 0 0] 10 0 [] []) [Party.mk 2 0, Party.mk 1 0, Party.mk 1 0] ([0, 3, (-1)] : List Int) [Pin.mk 1 2]) fun r13 => cond (decide (r13 = 1)) (Option.bind (plan_Wrong k (Venue.mk [Seat.mk 0 0 0 0, Seat.mk 0 10 0 0, Seat.mk 0 20 0 0, Seat.mk 0 30 0 0] 10 0 [] []) [Party.mk 2 0, Party.mk 1 0, Party.mk 1 0] ([0] : List Int) []) fun r16 => cond (decide (r16 = 3)) (Option.bind (plan_Seated k [Party.mk 2 0, Party.mk 1 0, Party.mk 1 0] ([0, 2, (-1)] : List Int)) fun r19 => cond (decide (r19 = 3)) (Option.bind (plan_Full k [Party.mk 2 0, Party.mk 1 0, Party.mk 1 0] ([0, 2, (-1)] : List Int)) fun r22 => cond (!r22) (Option.bind (plan_Full k [Party.mk 2 0, Party.mk 1 0, Party.mk 1 0] ([0, 2, 3] : List Int)) fun r25 => cond r25 (Option.bind (plan_Owners k (Venue.mk [Seat.mk 0 0 0 0, Seat.mk 0 10 0 0, Seat.mk 0 20 0 0, Seat.mk 0 30 0 0] 10 0 [] []) [Party.mk 2 0, Party.mk 1 0, Party.mk 1 0] ([0, 2, (-1)] : List Int)) fun r28 => Option.bind (ref6_SameInts k r28 ([1, 1, 2, 0] : List Int)) fun r30 => cond r30 (Option.bind (plan_Pins k (Venue.mk [Seat.mk 0 0 0 0, Seat.mk 0 10 0 0, Seat.mk 0 20 0 0, Seat.mk 0 30 0 0] 10 0 [] []) [Party.mk 2 0, Party.mk 1 0, Party.mk 1 0] [Pin.mk 1 2]) fun r33 => cond r33 (Option.bind (plan_Pins k (Venue.mk [Seat.mk 0 0 0 0, Seat.mk 0 10 0 0, Seat.mk 0 20 0 0, Seat.mk 0 30 0 0] 10 0 [] []) [Party.mk 2 0, Party.mk 1 0, Party.mk 1 0] [Pin.mk 3 0]) fun r36 => cond (!r36) (Option.bind (plan_Seated k [] []) fun r39 => some (decide (r39 = 0))) (some false)) (some false)) (some false)) (some false)) (some false)) (some false)) (some false)) (some false)) (some false)) (some false)) (some false)) (some false)
def law12_PlanSeats_l0 (k : Nat) (a2 : (List Int)) (r1 : Venue × (List Party)) : Nat → (List Int) → Int → Option ((List Int))
  | 0, _, _ => none
  | n + 1, v22, v23 => cond (decide (v23 < (r1.2.length : Int))) (cond (decide (v23 < (a2.length : Int))) (Option.bind (idx a2 v23) fun y29 => gd (decide ((IntKind.u64.wrap (wr ((r1.1.Seats.length : Int) + 1))) ≠ 0)) (gd (decide (v22.length + ([wr ((wr ((IntKind.u64.wrap y29).tmod (IntKind.u64.wrap (wr ((r1.1.Seats.length : Int) + 1))))) - 1)]).length ≤ 4294967296)) (law12_PlanSeats_l0 k a2 r1 n (v22 ++ [wr ((wr ((IntKind.u64.wrap y29).tmod (IntKind.u64.wrap (wr ((r1.1.Seats.length : Int) + 1))))) - 1)]) (wr (v23 + 1))))) (gd (decide (v22.length + (([(-1)] : List Int)).length ≤ 4294967296)) (law12_PlanSeats_l0 k a2 r1 n (v22 ++ ([(-1)] : List Int)) (wr (v23 + 1))))) (some v22)
def law12_PlanSeats_l4 (k : Nat) (r227 : (List Int) × Bool) (v212 : Int) : Nat → (List Int) → Bool → Int → Option (Ex ((List Int) × Bool) (Bool))
  | 0, _, _, _ => none
  | n + 1, v281, v282, v283 => cond (decide (v283 < (r227.1.length : Int))) (Option.bind (idx r227.1 v283) fun y285 => cond (decide (y285 < 0)) (some (Ex.rt false)) (Option.bind (idx r227.1 v283) fun y290 => cond (decide ((v281.length : Int) ≤ y290)) (some (Ex.rt false)) (cond v282 (Option.bind (idx r227.1 v283) fun y296 => Option.bind (idx v281 y296) fun y298 => Option.bind (idx r227.1 v283) fun y300 => Option.bind (idx v281 y300) fun y302 => law12_PlanSeats_l4 k r227 v212 n (v281.set y300.toNat (wr (v212 + 1))) (decide (y298 = 0)) (wr (v283 + 1))) (Option.bind (idx r227.1 v283) fun y304 => Option.bind (idx v281 y304) fun y306 => law12_PlanSeats_l4 k r227 v212 n (v281.set y304.toNat (wr (v212 + 1))) false (wr (v283 + 1)))))) (some (Ex.go (v281, v282)))
def law12_PlanSeats_l3 (k : Nat) (o19 : ((List Int))) (r1 : Venue × (List Party)) : Nat → (List Int) → Bool → Int → Option (Ex ((List Int) × Bool) (Bool))
  | 0, _, _, _ => none
  | n + 1, v210, v211, v212 => cond (decide (v212 < (o19.length : Int))) (Option.bind (idx o19 v212) fun y214 => cond (decide (y214 < 0)) (law12_PlanSeats_l3 k o19 r1 n v210 v211 (wr (v212 + 1))) (Option.bind (idx r1.2 v212) fun y223 => Option.bind (idx o19 v212) fun y225 => Option.bind (place_Seats k r1.1 y223 y225) fun r227 => Option.bind (cond v211 (some r227.2) (some false)) fun o230 => Option.bind (law12_PlanSeats_l4 k r227 v212 k v210 o230 0) fun o277 => Ex.elim o277 (fun v280 => law12_PlanSeats_l3 k o19 r1 n v280.1 v280.2 (wr (v212 + 1))) (fun rr => some (Ex.rt rr)))) (some (Ex.go (v210, v211)))
def law12_PlanSeats_l8 (k : Nat) (r1 : Venue × (List Party)) (v209 : ((List Int) × Bool)) (v516 : Int) : Nat → Bool → Int → Option (Bool)
  | 0, _, _ => none
  | n + 1, v585, v586 => cond (decide (v586 < v516)) (Option.bind (Option.bind (idx v209.1 v516) fun y617 => cond (decide (0 < y617)) (Option.bind (idx v209.1 v586) fun y620 => cond (decide (0 < y620)) (Option.bind (idx v209.1 v516) fun y623 => Option.bind (idx v209.1 v586) fun y625 => cond (!decide (y623 = y625)) (Option.bind (ref6_Clash k r1.1 v516 v586) fun r628 => some r628) (some false)) (some false)) (some false)) fun o601 => cond o601 (law12_PlanSeats_l8 k r1 v209 v516 n false (wr (v586 + 1))) (law12_PlanSeats_l8 k r1 v209 v516 n v585 (wr (v586 + 1)))) (some v585)
def law12_PlanSeats_l7 (k : Nat) (r1 : Venue × (List Party)) (v209 : ((List Int) × Bool)) : Nat → Bool → Int → Option (Bool)
  | 0, _, _ => none
  | n + 1, v515, v516 => cond (decide (v516 < (v209.1.length : Int))) (Option.bind (law12_PlanSeats_l8 k r1 v209 v516 k v515 0) fun o582 => law12_PlanSeats_l7 k r1 v209 n o582 (wr (v516 + 1))) (some v515)
def law12_PlanSeats (k : Nat) (a0 : (List Int)) (a1 : (List Int)) (a2 : (List Int)) : Option (Bool) :=
  Option.bind (law12_Small k a0 a1) fun r1 => Option.bind (law12_PlanSeats_l0 k a2 r1 k [] 0) fun o19 => gd (decide ((0 : Int) ≤ (r1.1.Seats.length : Int) ∧ (r1.1.Seats.length : Int) ≤ 4294967296)) (Option.bind (law12_PlanSeats_l3 k o19 r1 k (List.replicate (r1.1.Seats.length : Int).toNat (0 : Int)) true 0) fun o206 => Ex.elim o206 (fun v209 => Option.bind (law12_PlanSeats_l7 k r1 v209 k v209.2 0) fun o512 => Option.bind (plan_Owners k r1.1 r1.2 o19) fun r631 => Option.bind (law12_told k ) fun r633 => cond r633 (Option.bind (plan_May k r1.1 r1.2 o19 []) fun r636 => cond (r636 == o512) (cond o512 (Option.bind (ref6_SameInts k r631 v209.1) fun r640 => cond r640 (some true) (cond (!o512) (some (decide ((r631.length : Int) = 0))) (some false))) (cond (!o512) (some (decide ((r631.length : Int) = 0))) (some false))) (some false)) (some false)) (fun rr => some rr))
end Go.Px
