/- The functions of this seat's laws as plain Lean functions (no memory and no Go in them). -/
import Derived.Test.YtlfpkjlaajfjnaaShP
set_option linter.unusedVariables false
set_option linter.unusedSimpArgs false
set_option maxRecDepth 100000
namespace Go.Px
open Go Go.Sh
structure Seat where
  Row : Int
  X : Int
  Y : Int
  Kind : Int
deriving DecidableEq, Inhabited
structure Pole where
  X : Int
  Y : Int
  R : Int
deriving DecidableEq, Inhabited
structure Party where
  Size : Int
  Wheels : Int
deriving DecidableEq, Inhabited
structure Pin where
  Party : Int
  First : Int
deriving DecidableEq, Inhabited
structure Venue where
  Seats : (List Seat)
  Gap : Int
  Radius : Int
  Kills : (List Int)
  Poles : (List Pole)
deriving DecidableEq, Inhabited
structure PlaceHall where
  V : Venue
  usable : (List Bool)
deriving DecidableEq, Inhabited
structure Ref6Hall where
  V : Venue
  U : (List Bool)
deriving DecidableEq, Inhabited
def eSeat (x : Seat) : SV := .agg [.v (.int .i64 x.Row), .v (.int .i64 x.X), .v (.int .i64 x.Y), .v (.int .i64 x.Kind)]
theorem enc_Seat : Enc eSeat 4 := ⟨fun a => ⟨rfl, rfl, rfl⟩⟩
theorem fl_Seat : ∀ a, ∀ y, y ∈ (eSeat a).cells → flat1 y = true := fl_of fun a => rfl
def eI (x : Int) : SV := .v (.int .i64 x)
theorem enc_I : Enc eI 1 := ⟨fun a => ⟨rfl, rfl, rfl⟩⟩
theorem ro_I : ∀ a, ro1 (eI a) = true := fun a => rfl
theorem fl_I : ∀ a, ∀ y, y ∈ (eI a).cells → flat1 y = true := fl_of fun a => rfl
def ePole (x : Pole) : SV := .agg [.v (.int .i64 x.X), .v (.int .i64 x.Y), .v (.int .i64 x.R)]
theorem enc_Pole : Enc ePole 3 := ⟨fun a => ⟨rfl, rfl, rfl⟩⟩
theorem fl_Pole : ∀ a, ∀ y, y ∈ (ePole a).cells → flat1 y = true := fl_of fun a => rfl
def eLI (x : (List Int)) : SV := .lst (List.map eI x)
theorem enc_LI : Enc eLI 1 := ⟨fun a => ⟨rfl, rfl, rfl⟩⟩
def eB (x : Bool) : SV := .v (.bool x)
theorem enc_B : Enc eB 1 := ⟨fun a => ⟨rfl, rfl, rfl⟩⟩
theorem ro_B : ∀ a, ro1 (eB a) = true := fun a => rfl
theorem fl_B : ∀ a, ∀ y, y ∈ (eB a).cells → flat1 y = true := fl_of fun a => rfl
def eParty (x : Party) : SV := .agg [.v (.int .i64 x.Size), .v (.int .i64 x.Wheels)]
theorem enc_Party : Enc eParty 2 := ⟨fun a => ⟨rfl, rfl, rfl⟩⟩
theorem fl_Party : ∀ a, ∀ y, y ∈ (eParty a).cells → flat1 y = true := fl_of fun a => rfl
def ePin (x : Pin) : SV := .agg [.v (.int .i64 x.Party), .v (.int .i64 x.First)]
theorem enc_Pin : Enc ePin 2 := ⟨fun a => ⟨rfl, rfl, rfl⟩⟩
theorem fl_Pin : ∀ a, ∀ y, y ∈ (ePin a).cells → flat1 y = true := fl_of fun a => rfl
def eOPRef6Hall : Option Ref6Hall → SV
  | none => .v (.pointer none)
  | some x => .rptr [.lst (List.map eSeat x.V.Seats), .v (.int .i64 x.V.Gap), .v (.int .i64 x.V.Radius), .lst (List.map eI x.V.Kills), .lst (List.map ePole x.V.Poles), .lst (List.map eB x.U)]
def okI (x : Int) : Prop := -9223372036854775808 ≤ x ∧ x ≤ 9223372036854775807
def okSeat (x : Seat) : Prop := okI x.Row ∧ okI x.X ∧ okI x.Y ∧ okI x.Kind
def okLSeat (x : (List Seat)) : Prop := x.length ≤ maxLen ∧ ∀ y, y ∈ x → okSeat y
def okLI (x : (List Int)) : Prop := x.length ≤ maxLen ∧ ∀ y, y ∈ x → okI y
def okPole (x : Pole) : Prop := okI x.X ∧ okI x.Y ∧ okI x.R
def okLPole (x : (List Pole)) : Prop := x.length ≤ maxLen ∧ ∀ y, y ∈ x → okPole y
def okVenue (x : Venue) : Prop := okLSeat x.Seats ∧ okI x.Gap ∧ okI x.Radius ∧ okLI x.Kills ∧ okLPole x.Poles
def okB (x : Bool) : Prop := True
def okLB (x : (List Bool)) : Prop := x.length ≤ maxLen ∧ ∀ y, y ∈ x → okB y
def okParty (x : Party) : Prop := okI x.Size ∧ okI x.Wheels
def law3_Few (k : Nat) (a0 : Venue) : Option (Bool) :=
  cond (decide ((a0.Seats.length : Int) ≤ 40)) (cond (decide ((a0.Kills.length : Int) ≤ 40)) (some (decide ((a0.Poles.length : Int) ≤ 40))) (some false)) (some false)
def venue_in (k : Nat) (a0 : Int) (a1 : Int) (a2 : Int) : Option (Bool) :=
  cond (decide (a1 ≤ a0)) (some (decide (a0 ≤ a2))) (some false)
def venue_Row (k : Nat) (a0 : Int) : Option (Bool) :=
  Option.bind (venue_in k a0 0 999) fun r1 => some r1
def venue_Coord (k : Nat) (a0 : Int) : Option (Bool) :=
  Option.bind (venue_in k a0 (-1048576) 1048576) fun r1 => some r1
def venue_seat (k : Nat) (a0 : Seat) : Option (Bool) :=
  cond (decide (a0.Kind = 0)) (Option.bind (venue_Row k a0.Row) fun r2 => cond r2 (Option.bind (venue_Coord k a0.X) fun r5 => cond r5 (Option.bind (venue_Coord k a0.Y) fun r8 => some r8) (some false)) (some false)) (cond (decide (a0.Kind = 1)) (Option.bind (venue_Row k a0.Row) fun r11 => cond r11 (Option.bind (venue_Coord k a0.X) fun r14 => cond r14 (Option.bind (venue_Coord k a0.Y) fun r17 => some r17) (some false)) (some false)) (cond (decide (a0.Kind = 2)) (Option.bind (venue_Row k a0.Row) fun r20 => cond r20 (Option.bind (venue_Coord k a0.X) fun r23 => cond r23 (Option.bind (venue_Coord k a0.Y) fun r26 => some r26) (some false)) (some false)) (some false)))
def venue_Less (k : Nat) (a0 : Seat) (a1 : Seat) : Option (Bool) :=
  cond (decide (a0.Row < a1.Row)) (some true) (cond (decide (a0.Row = a1.Row)) (some (decide (a0.X < a1.X))) (some false))
def venue_seats_l0 (k : Nat) (a0 : (List Seat)) : Nat → Int → Option (Ex (Unit) (Bool))
  | 0, _ => none
  | n + 1, v30 => cond (decide (v30 < (a0.length : Int))) (Option.bind (idx a0 v30) fun y32 => Option.bind (venue_seat k y32) fun r42 => cond (!r42) (some (Ex.rt false)) (cond (decide (0 < v30)) (Option.bind (idx a0 (wr (v30 - 1))) fun y46 => Option.bind (venue_Less k y46 y32) fun r48 => cond (!r48) (some (Ex.rt false)) (venue_seats_l0 k a0 n (wr (v30 + 1)))) (venue_seats_l0 k a0 n (wr (v30 + 1))))) (some (Ex.go ()))
def venue_seats (k : Nat) (a0 : (List Seat)) : Option (Bool) :=
  Option.bind (venue_seats_l0 k a0 k 0) fun o26 => Ex.elim o26 (fun v29 => cond (decide (0 < (a0.length : Int))) (some (decide ((a0.length : Int) ≤ 4096))) (some false)) (fun rr => some rr)
def venue_Reach (k : Nat) (a0 : Int) : Option (Bool) :=
  Option.bind (venue_in k a0 1 1048576) fun r1 => some r1
def venue_kills_l0 (k : Nat) (a0 : (List Int)) (a1 : Int) : Nat → Int → Option (Ex (Unit) (Bool))
  | 0, _ => none
  | n + 1, v24 => cond (decide (v24 < (a0.length : Int))) (Option.bind (idx a0 v24) fun y26 => cond (decide (y26 < 0)) (some (Ex.rt false)) (cond (decide (a1 ≤ y26)) (some (Ex.rt false)) (cond (decide (0 < v24)) (Option.bind (idx a0 (wr (v24 - 1))) fun y31 => cond (decide (y26 ≤ y31)) (some (Ex.rt false)) (venue_kills_l0 k a0 a1 n (wr (v24 + 1)))) (venue_kills_l0 k a0 a1 n (wr (v24 + 1)))))) (some (Ex.go ()))
def venue_kills (k : Nat) (a0 : (List Int)) (a1 : Int) : Option (Bool) :=
  Option.bind (venue_kills_l0 k a0 a1 k 0) fun o20 => Ex.elim o20 (fun v23 => some (decide ((a0.length : Int) ≤ 200))) (fun rr => some rr)
def venue_poles_l0 (k : Nat) (a0 : (List Pole)) : Nat → Int → Option (Ex (Unit) (Bool))
  | 0, _ => none
  | n + 1, v30 => cond (decide (v30 < (a0.length : Int))) (Option.bind (idx a0 v30) fun y32 => Option.bind (venue_Coord k y32.X) fun r34 => cond (!r34) (some (Ex.rt false)) (Option.bind (venue_Coord k y32.Y) fun r37 => cond (!r37) (some (Ex.rt false)) (Option.bind (venue_Reach k y32.R) fun r40 => cond (!r40) (some (Ex.rt false)) (venue_poles_l0 k a0 n (wr (v30 + 1)))))) (some (Ex.go ()))
def venue_poles (k : Nat) (a0 : (List Pole)) : Option (Bool) :=
  Option.bind (venue_poles_l0 k a0 k 0) fun o26 => Ex.elim o26 (fun v29 => some (decide ((a0.length : Int) ≤ 200))) (fun rr => some rr)
def venue_Wrong (k : Nat) (a0 : Venue) : Option (ByteArray) :=
  Option.bind (venue_seats k a0.Seats) fun r1 => cond (!r1) (some (⟨#[115, 101, 97, 116, 115]⟩ : ByteArray)) (Option.bind (venue_Reach k a0.Gap) fun r4 => cond (!r4) (some (⟨#[103, 97, 112]⟩ : ByteArray)) (Option.bind (venue_in k a0.Radius 0 1048576) fun r7 => cond (!r7) (some (⟨#[114, 97, 100, 105, 117, 115]⟩ : ByteArray)) (Option.bind (venue_kills k a0.Kills (a0.Seats.length : Int)) fun r10 => cond (!r10) (some (⟨#[107, 105, 108, 108, 115]⟩ : ByteArray)) (Option.bind (venue_poles k a0.Poles) fun r13 => cond (!r13) (some (⟨#[112, 111, 108, 101, 115]⟩ : ByteArray)) (some (⟨#[]⟩ : ByteArray))))))
def venue_May (k : Nat) (a0 : Venue) : Option (Bool) :=
  Option.bind (venue_Wrong k a0) fun r1 => some (r1 == (⟨#[]⟩ : ByteArray))
def geom_Far_l0 (k : Nat) (a0 : Seat) (a1 : Seat) : Nat → Int → Option (Ex (Unit) (Int))
  | 0, _ => none
  | n + 1, v24 => cond (decide (v24 < (([a0, a1]).length : Int))) (Option.bind (idx [a0, a1] v24) fun y26 => Option.bind (venue_Coord k y26.X) fun r28 => cond (!r28) (some (Ex.rt 0)) (Option.bind (venue_Coord k y26.Y) fun r31 => cond (!r31) (some (Ex.rt 0)) (geom_Far_l0 k a0 a1 n (wr (v24 + 1))))) (some (Ex.go ()))
def geom_Far (k : Nat) (a0 : Seat) (a1 : Seat) : Option (Int) :=
  Option.bind (geom_Far_l0 k a0 a1 k 0) fun o20 => Ex.elim o20 (fun v23 => some (wr ((wr ((wr (a0.X - a1.X)) * (wr (a0.X - a1.X)))) + (wr ((wr (a0.Y - a1.Y)) * (wr (a0.Y - a1.Y))))))) (fun rr => some rr)
def geom_Close (k : Nat) (a0 : Seat) (a1 : Seat) (a2 : Int) : Option (Bool) :=
  Option.bind (geom_Far k a0 a1) fun r1 => some (decide (r1 < (wr (a2 * a2))))
def geom_Near_l0 (k : Nat) (a0 : Venue) (a1 : Int) (a2 : Int) (a3 : Int) : Nat → (List Int) → Int → Option ((List Int))
  | 0, _, _ => none
  | n + 1, v46, v47 => cond (decide (v47 < (a0.Seats.length : Int))) (Option.bind (idx a0.Seats v47) fun y49 => Option.bind (geom_Close k y49 (Seat.mk 0 a1 a2 0) a3) fun r51 => cond r51 (gd (decide (v46.length + ([v47]).length ≤ 4294967296)) (geom_Near_l0 k a0 a1 a2 a3 n (v46 ++ [v47]) (wr (v47 + 1)))) (geom_Near_l0 k a0 a1 a2 a3 n v46 (wr (v47 + 1)))) (some v46)
def geom_Near (k : Nat) (a0 : Venue) (a1 : Int) (a2 : Int) (a3 : Int) : Option ((List Int)) :=
  Option.bind (Option.bind (venue_May k a0) fun r15 => cond (!r15) (some true) (Option.bind (venue_Coord k a1) fun r18 => cond (!r18) (some true) (Option.bind (venue_Coord k a2) fun r21 => cond (!r21) (some true) (Option.bind (venue_Reach k a3) fun r24 => some (!r24))))) fun o12 => cond o12 (some []) (Option.bind (geom_Near_l0 k a0 a1 a2 a3 k [] 0) fun o43 => some o43)
def geom_side (k : Nat) (a0 : Venue) (a1 : Int) : Option (Bool) :=
  cond (decide (a1 < 0)) (some false) (cond (decide ((a0.Seats.length : Int) ≤ a1)) (some false) (some true))
def geom_Clash (k : Nat) (a0 : Venue) (a1 : Int) (a2 : Int) : Option (Bool) :=
  Option.bind (geom_side k a0 a1) fun r17 => cond r17 (Option.bind (geom_side k a0 a2) fun r20 => cond r20 (cond (!decide (a1 = a2)) (Option.bind (venue_May k a0) fun r24 => cond r24 (Option.bind (idx a0.Seats a1) fun y27 => Option.bind (idx a0.Seats a2) fun y29 => Option.bind (geom_Close k y27 y29 a0.Radius) fun r31 => some r31) (some false)) (some false)) (some false)) (some false)
def ref6_coord (k : Nat) (a0 : Int) : Option (Bool) :=
  cond (decide ((-1048576) ≤ a0)) (some (decide (a0 ≤ 1048576))) (some false)
def ref6_square (k : Nat) (a0 : Int) (a1 : Int) : Option (Int) :=
  some (wr ((wr (a0 - a1)) * (wr (a0 - a1))))
def ref6_Far (k : Nat) (a0 : Seat) (a1 : Seat) : Option (Int) :=
  Option.bind (ref6_coord k a0.X) fun r1 => cond (!r1) (some 0) (Option.bind (ref6_coord k a0.Y) fun r4 => cond (!r4) (some 0) (Option.bind (ref6_coord k a1.X) fun r7 => cond (!r7) (some 0) (Option.bind (ref6_coord k a1.Y) fun r10 => cond (!r10) (some 0) (Option.bind (ref6_square k a0.X a1.X) fun r17 => Option.bind (ref6_square k a0.Y a1.Y) fun r19 => some (wr (r17 + r19))))))
def ref2_in (k : Nat) (a0 : Int) (a1 : Int) (a2 : Int) : Option (Bool) :=
  cond (decide (a1 ≤ a0)) (some (decide (a0 ≤ a2))) (some false)
def ref2_coord (k : Nat) (a0 : Int) : Option (Bool) :=
  Option.bind (ref2_in k a0 (-1048576) 1048576) fun r1 => some r1
def ref2_Less (k : Nat) (a0 : Seat) (a1 : Seat) : Option (Bool) :=
  cond (decide (a0.Row < a1.Row)) (some true) (cond (decide (a0.Row = a1.Row)) (some (decide (a0.X < a1.X))) (some false))
def ref2_seats_l0 (k : Nat) (a0 : (List Seat)) : Nat → Int → Option (Ex (Unit) (Bool))
  | 0, _ => none
  | n + 1, v48 => cond (decide (v48 < (a0.length : Int))) (Option.bind (idx a0 v48) fun y50 => Option.bind (ref2_in k y50.Row 0 999) fun r69 => cond (!r69) (some (Ex.rt false)) (Option.bind (ref2_coord k y50.X) fun r72 => cond (!r72) (some (Ex.rt false)) (Option.bind (ref2_coord k y50.Y) fun r75 => cond (!r75) (some (Ex.rt false)) (Option.bind (ref2_in k y50.Kind 0 2) fun r78 => cond (!r78) (some (Ex.rt false)) (cond (decide (0 < v48)) (Option.bind (idx a0 (wr (v48 - 1))) fun y82 => Option.bind (ref2_Less k y82 y50) fun r84 => cond (!r84) (some (Ex.rt false)) (ref2_seats_l0 k a0 n (wr (v48 + 1)))) (ref2_seats_l0 k a0 n (wr (v48 + 1)))))))) (some (Ex.go ()))
def ref2_seats (k : Nat) (a0 : (List Seat)) : Option (Bool) :=
  Option.bind (ref2_seats_l0 k a0 k 0) fun o44 => Ex.elim o44 (fun v47 => cond (decide (1 ≤ (a0.length : Int))) (some (decide ((a0.length : Int) ≤ 4096))) (some false)) (fun rr => some rr)
def ref2_kills_l0 (k : Nat) (a0 : (List Int)) (a1 : Int) : Nat → Int → Option (Ex (Unit) (Bool))
  | 0, _ => none
  | n + 1, v30 => cond (decide (v30 < (a0.length : Int))) (Option.bind (idx a0 v30) fun y42 => Option.bind (ref2_in k y42 0 (wr (a1 - 1))) fun r44 => cond (!r44) (some (Ex.rt false)) (cond (decide (0 < v30)) (Option.bind (idx a0 v30) fun y48 => Option.bind (idx a0 (wr (v30 - 1))) fun y50 => cond (decide (y48 ≤ y50)) (some (Ex.rt false)) (ref2_kills_l0 k a0 a1 n (wr (v30 + 1)))) (ref2_kills_l0 k a0 a1 n (wr (v30 + 1))))) (some (Ex.go ()))
def ref2_kills (k : Nat) (a0 : (List Int)) (a1 : Int) : Option (Bool) :=
  Option.bind (ref2_kills_l0 k a0 a1 k 0) fun o26 => Ex.elim o26 (fun v29 => some (decide ((a0.length : Int) ≤ 200))) (fun rr => some rr)
def ref2_poles_l0 (k : Nat) (a0 : (List Pole)) : Nat → Int → Option (Ex (Unit) (Bool))
  | 0, _ => none
  | n + 1, v38 => cond (decide (v38 < (a0.length : Int))) (Option.bind (idx a0 v38) fun y40 => Option.bind (ref2_coord k y40.X) fun r42 => cond (!r42) (some (Ex.rt false)) (Option.bind (idx a0 v38) fun y45 => Option.bind (ref2_coord k y45.Y) fun r47 => cond (!r47) (some (Ex.rt false)) (Option.bind (idx a0 v38) fun y50 => Option.bind (ref2_in k y50.R 1 1048576) fun r52 => cond (!r52) (some (Ex.rt false)) (ref2_poles_l0 k a0 n (wr (v38 + 1)))))) (some (Ex.go ()))
def ref2_poles (k : Nat) (a0 : (List Pole)) : Option (Bool) :=
  Option.bind (ref2_poles_l0 k a0 k 0) fun o34 => Ex.elim o34 (fun v37 => some (decide ((a0.length : Int) ≤ 200))) (fun rr => some rr)
def ref2_Wrong (k : Nat) (a0 : Venue) : Option (ByteArray) :=
  Option.bind (ref2_seats k a0.Seats) fun r1 => cond (!r1) (some (⟨#[115, 101, 97, 116, 115]⟩ : ByteArray)) (Option.bind (ref2_in k a0.Gap 1 1048576) fun r4 => cond (!r4) (some (⟨#[103, 97, 112]⟩ : ByteArray)) (Option.bind (ref2_in k a0.Radius 0 1048576) fun r7 => cond (!r7) (some (⟨#[114, 97, 100, 105, 117, 115]⟩ : ByteArray)) (Option.bind (ref2_kills k a0.Kills (a0.Seats.length : Int)) fun r10 => cond (!r10) (some (⟨#[107, 105, 108, 108, 115]⟩ : ByteArray)) (Option.bind (ref2_poles k a0.Poles) fun r13 => cond (!r13) (some (⟨#[112, 111, 108, 101, 115]⟩ : ByteArray)) (some (⟨#[]⟩ : ByteArray))))))
def ref2_May (k : Nat) (a0 : Venue) : Option (Bool) :=
  Option.bind (ref2_Wrong k a0) fun r1 => some (r1 == (⟨#[]⟩ : ByteArray))
def ref6_seat (k : Nat) (a0 : Venue) (a1 : Int) : Option (Bool) :=
  cond (decide (0 ≤ a1)) (some (decide (a1 < (a0.Seats.length : Int)))) (some false)
def ref6_clash (k : Nat) (a0 : Venue) (a1 : Int) (a2 : Int) : Option (Bool) :=
  Option.bind (ref6_seat k a0 a1) fun r16 => cond r16 (Option.bind (ref6_seat k a0 a2) fun r19 => cond r19 (cond (!decide (a1 = a2)) (Option.bind (idx a0.Seats a1) fun y23 => Option.bind (idx a0.Seats a2) fun y25 => Option.bind (ref6_Far k y23 y25) fun r27 => Option.bind (ref6_square k a0.Radius 0) fun r29 => some (decide (r27 < r29))) (some false)) (some false)) (some false)
def ref6_Clash (k : Nat) (a0 : Venue) (a1 : Int) (a2 : Int) : Option (Bool) :=
  Option.bind (ref2_May k a0) fun r1 => cond r1 (Option.bind (ref6_clash k a0 a1 a2) fun r4 => some r4) (some false)
def ref6_Near_l0 (k : Nat) (a0 : Venue) (a1 : Int) (a2 : Int) (a3 : Int) : Nat → (List Int) → Int → Option ((List Int))
  | 0, _, _ => none
  | n + 1, v48, v49 => cond (decide (v49 < (a0.Seats.length : Int))) (Option.bind (idx a0.Seats v49) fun y51 => Option.bind (ref6_Far k y51 (Seat.mk 0 a1 a2 0)) fun r53 => Option.bind (ref6_square k a3 0) fun r55 => cond (decide (r53 < r55)) (gd (decide (v48.length + ([v49]).length ≤ 4294967296)) (ref6_Near_l0 k a0 a1 a2 a3 n (v48 ++ [v49]) (wr (v49 + 1)))) (ref6_Near_l0 k a0 a1 a2 a3 n v48 (wr (v49 + 1)))) (some v48)
def ref6_Near (k : Nat) (a0 : Venue) (a1 : Int) (a2 : Int) (a3 : Int) : Option ((List Int)) :=
  Option.bind (Option.bind (ref2_May k a0) fun r14 => cond (!r14) (some true) (Option.bind (ref6_coord k a1) fun r17 => cond (!r17) (some true) (Option.bind (ref6_coord k a2) fun r20 => cond (!r20) (some true) (cond (decide (a3 < 1)) (some true) (some (decide (1048576 < a3))))))) fun o11 => cond o11 (some []) (Option.bind (ref6_Near_l0 k a0 a1 a2 a3 k [] 0) fun o45 => some o45)
def ref6_SameInts_l0 (k : Nat) (a0 : (List Int)) (a1 : (List Int)) : Nat → Int → Option (Ex (Unit) (Bool))
  | 0, _ => none
  | n + 1, v19 => cond (decide (v19 < (a0.length : Int))) (Option.bind (idx a0 v19) fun y25 => Option.bind (idx a1 v19) fun y27 => cond (!decide (y25 = y27)) (some (Ex.rt false)) (ref6_SameInts_l0 k a0 a1 n (wr (v19 + 1)))) (some (Ex.go ()))
def ref6_SameInts (k : Nat) (a0 : (List Int)) (a1 : (List Int)) : Option (Bool) :=
  cond (!decide ((a0.length : Int) = (a1.length : Int))) (some false) (Option.bind (ref6_SameInts_l0 k a0 a1 k 0) fun o15 => Ex.elim o15 (fun v18 => some true) (fun rr => some rr))
def law6_fit (k : Nat) (a0 : Seat) : Option (Seat) :=
  some (Seat.mk 0 (wr ((wr ((IntKind.u64.wrap a0.X).tmod 2097153)) - 1048576)) (wr ((wr ((IntKind.u64.wrap a0.Y).tmod 2097153)) - 1048576)) 0)
def law3_Make_l0 (k : Nat) (a0 : (List Int)) (a1 : Int) : Nat → (List Seat) → Int → (List Int) → (List Pole) → Int → Int → Int → Option ((List Seat) × Int × (List Int) × (List Pole))
  | 0, _, _, _, _, _, _, _ => none
  | n + 1, v91, v92, v93, v94, v95, v96, v97 => Option.bind (cond (decide (v97 < (a0.length : Int))) (some (decide ((v91.length : Int) < a1))) (some false)) fun o99 => cond o99 (Option.bind (idx a0 v97) fun y104 => Option.bind (cond (decide (((IntKind.u64.wrap y104).tmod 7) = 0)) (some (wr (v95 + 1), 0)) (cond (decide (((IntKind.u64.wrap y104).tmod 7) = 1)) (some (v95, wr ((wr (v96 + 10)) + 5))) (some (v95, wr (v96 + 10))))) fun o108 => Option.bind (cond (decide (((IntKind.u64.wrap ((IntKind.u64.wrap y104).tdiv 7)).tmod 6) = 0)) (some 1) (cond (decide (((IntKind.u64.wrap ((IntKind.u64.wrap y104).tdiv 7)).tmod 6) = 1)) (some 2) (cond (decide (((IntKind.u64.wrap ((IntKind.u64.wrap y104).tdiv 7)).tmod 6) = 2)) (some 2) (some 0)))) fun o116 => gd (decide (v91.length + ([Seat.mk o108.1 o108.2 (wr (10 * o108.1)) o116]).length ≤ 4294967296)) (Option.bind (cond (decide (((IntKind.u64.wrap ((IntKind.u64.wrap y104).tdiv 42)).tmod 9) = 0)) (gd (decide (v93.length + ([wr (((v91 ++ [Seat.mk o108.1 o108.2 (wr (10 * o108.1)) o116]).length : Int) - 1)]).length ≤ 4294967296)) (some (v93 ++ [wr (((v91 ++ [Seat.mk o108.1 o108.2 (wr (10 * o108.1)) o116]).length : Int) - 1)]))) (some v93)) fun o125 => Option.bind (cond (decide (((IntKind.u64.wrap ((IntKind.u64.wrap y104).tdiv 42)).tmod 11) = 1)) (gd (decide (v94.length + ([Pole.mk o108.2 (wr (10 * o108.1)) (wr (1 + (wr ((IntKind.u64.wrap ((IntKind.u64.wrap y104).tdiv 500)).tmod 12))))]).length ≤ 4294967296)) (some (v94 ++ [Pole.mk o108.2 (wr (10 * o108.1)) (wr (1 + (wr ((IntKind.u64.wrap ((IntKind.u64.wrap y104).tdiv 500)).tmod 12))))]))) (some v94)) fun o132 => cond (decide (((IntKind.u64.wrap ((IntKind.u64.wrap y104).tdiv 42)).tmod 5) = 3)) (law3_Make_l0 k a0 a1 n (v91 ++ [Seat.mk o108.1 o108.2 (wr (10 * o108.1)) o116]) (wr ((IntKind.u64.wrap ((IntKind.u64.wrap y104).tdiv 300)).tmod 25)) o125 o132 o108.1 o108.2 (wr (v97 + 1))) (law3_Make_l0 k a0 a1 n (v91 ++ [Seat.mk o108.1 o108.2 (wr (10 * o108.1)) o116]) v92 o125 o132 o108.1 o108.2 (wr (v97 + 1))))) (some (v91, v92, v93, v94))
def law3_Make (k : Nat) (a0 : (List Int)) (a1 : Int) : Option (Venue) :=
  Option.bind (law3_Make_l0 k a0 a1 k [Seat.mk 0 0 0 0] 0 [] [] 0 0 0) fun o88 => some (Venue.mk o88.1 10 o88.2.1 o88.2.2.1 o88.2.2.2)
def run_free (k : Nat) (a0 : Venue) (a1 : (List Bool)) (a2 : Int) : Option (Bool) :=
  cond (decide (a2 < 0)) (some false) (cond (decide ((a0.Seats.length : Int) ≤ a2)) (some false) (cond (decide ((a1.length : Int) ≤ a2)) (some false) (Option.bind (idx a1 a2) fun y4 => some y4)))
def run_next (k : Nat) (a0 : Venue) (a1 : Int) : Option (Bool) :=
  cond (decide (0 ≤ a1)) (cond (decide (a1 < (wr ((a0.Seats.length : Int) - 1)))) (Option.bind (idx a0.Seats (wr (a1 + 1))) fun y14 => Option.bind (idx a0.Seats a1) fun y16 => cond (decide (y14.Row = y16.Row)) (Option.bind (idx a0.Seats (wr (a1 + 1))) fun y19 => Option.bind (idx a0.Seats a1) fun y21 => some (decide ((wr (y19.X - y21.X)) ≤ a0.Gap))) (some false)) (some false)) (some false)
def run_long_l0 (k : Nat) (a0 : Venue) (a1 : (List Bool)) (a2 : Int) (a3 : Int) : Nat → Int → Option (Int)
  | 0, _ => none
  | n + 1, v21 => cond (decide (v21 < a3)) (Option.bind (run_free k a0 a1 (wr (a2 + v21))) fun r23 => cond r23 (cond (decide (v21 = 0)) (run_long_l0 k a0 a1 a2 a3 n (wr (v21 + 1))) (Option.bind (run_next k a0 (wr ((wr (a2 + v21)) - 1))) fun r27 => cond r27 (run_long_l0 k a0 a1 a2 a3 n (wr (v21 + 1))) (some v21))) (some v21)) (some v21)
def run_long (k : Nat) (a0 : Venue) (a1 : (List Bool)) (a2 : Int) (a3 : Int) : Option (Int) :=
  Option.bind (run_long_l0 k a0 a1 a2 a3 k 0) fun o18 => some o18
def run_piece_l0 (k : Nat) (a0 : Int) (a1 : Int) : Nat → (List Int) → Int → Option ((List Int))
  | 0, _, _ => none
  | n + 1, v10, v11 => cond (decide (v11 < a1)) (gd (decide (v10.length + ([wr (a0 + v11)]).length ≤ 4294967296)) (run_piece_l0 k a0 a1 n (v10 ++ [wr (a0 + v11)]) (wr (v11 + 1)))) (some v10)
def run_piece (k : Nat) (a0 : Int) (a1 : Int) : Option ((List Int)) :=
  Option.bind (run_piece_l0 k a0 a1 k [] 0) fun o7 => some o7
def run_Runs_l0 (k : Nat) (a0 : Venue) (a1 : (List Bool)) : Nat → (List (List Int)) → Int → Option ((List (List Int)))
  | 0, _, _ => none
  | n + 1, v23, v24 => cond (decide (v24 < (a0.Seats.length : Int))) (Option.bind (run_long k a0 a1 v24 (a0.Seats.length : Int)) fun r26 => cond (decide (0 < r26)) (Option.bind (run_piece k v24 r26) fun r29 => gd (decide (v23.length + ([r29]).length ≤ 4294967296)) (run_Runs_l0 k a0 a1 n (v23 ++ [r29]) (wr (v24 + (if 1 > r26 then 1 else r26))))) (run_Runs_l0 k a0 a1 n v23 (wr (v24 + (if 1 > r26 then 1 else r26))))) (some v23)
def run_Runs (k : Nat) (a0 : Venue) (a1 : (List Bool)) : Option ((List (List Int))) :=
  Option.bind (venue_May k a0) fun r1 => cond (!r1) (some []) (Option.bind (run_Runs_l0 k a0 a1 k [] 0) fun o20 => some o20)
def run_Take (k : Nat) (a0 : Venue) (a1 : (List Bool)) (a2 : Int) (a3 : Int) : Option ((List Int) × Bool) :=
  cond (decide (a3 < 1)) (some ([], false)) (cond (decide ((a0.Seats.length : Int) < a3)) (some ([], false)) (Option.bind (run_long k a0 a1 a2 a3) fun r3 => cond (decide (r3 < a3)) (some ([], false)) (Option.bind (run_piece k a2 a3) fun r6 => some (r6, true))))
def run_Of (k : Nat) (a0 : Venue) (a1 : (List Bool)) (a2 : Int) (a3 : Int) : Option ((List Int) × Bool) :=
  Option.bind (venue_May k a0) fun r1 => cond (!r1) (some ([], false)) (Option.bind (run_Take k a0 a1 a2 a3) fun r4 => some (r4.1, r4.2))
def run_Next (k : Nat) (a0 : Venue) (a1 : Int) : Option (Bool) :=
  Option.bind (venue_May k a0) fun r1 => cond r1 (Option.bind (run_next k a0 a1) fun r4 => some r4) (some false)
def run_Long (k : Nat) (a0 : Venue) (a1 : (List Bool)) (a2 : Int) : Option (Int) :=
  Option.bind (venue_May k a0) fun r1 => cond (!r1) (some 0) (Option.bind (run_long k a0 a1 a2 (a0.Seats.length : Int)) fun r4 => some r4)
def law7_told (k : Nat)  : Option (Bool) :=
  Option.bind (run_Runs k (Venue.mk [Seat.mk 0 0 0 0, Seat.mk 0 10 0 0, Seat.mk 0 21 0 0, Seat.mk 0 31 0 0, Seat.mk 1 35 0 0] 10 0 [] []) [true, true, true, true, true]) fun r5 => Option.bind (run_Of k (Venue.mk [Seat.mk 0 0 0 0, Seat.mk 0 10 0 0, Seat.mk 0 21 0 0, Seat.mk 0 31 0 0, Seat.mk 1 35 0 0] 10 0 [] []) [true, true, true, true, true] 2 2) fun r7 => Option.bind (run_Of k (Venue.mk [Seat.mk 0 0 0 0, Seat.mk 0 10 0 0, Seat.mk 0 21 0 0, Seat.mk 0 31 0 0, Seat.mk 1 35 0 0] 10 0 [] []) [true, true, true, true, true] 1 2) fun r9 => Option.bind (run_Next k (Venue.mk [Seat.mk 0 0 0 0, Seat.mk 0 10 0 0, Seat.mk 0 21 0 0, Seat.mk 0 31 0 0, Seat.mk 1 35 0 0] 10 0 [] []) 0) fun r51 => cond r51 (Option.bind (run_Next k (Venue.mk [Seat.mk 0 0 0 0, Seat.mk 0 10 0 0, Seat.mk 0 21 0 0, Seat.mk 0 31 0 0, Seat.mk 1 35 0 0] 10 0 [] []) 1) fun r54 => cond (!r54) (Option.bind (run_Next k (Venue.mk [Seat.mk 0 0 0 0, Seat.mk 0 10 0 0, Seat.mk 0 21 0 0, Seat.mk 0 31 0 0, Seat.mk 1 35 0 0] 10 0 [] []) 3) fun r57 => cond (!r57) (Option.bind (run_Next k (Venue.mk [Seat.mk 0 0 0 0, Seat.mk 0 10 0 0, Seat.mk 0 21 0 0, Seat.mk 0 31 0 0, Seat.mk 1 35 0 0] 10 0 [] []) 4) fun r60 => cond (!r60) (cond (decide ((r5.length : Int) = 3)) (Option.bind (idx r5 0) fun y64 => cond (decide ((y64.length : Int) = 2)) (Option.bind (idx r5 2) fun y67 => Option.bind (idx y67 0) fun y69 => cond (decide (y69 = 4)) (cond r7.2 (cond (decide ((r7.1.length : Int) = 2)) (Option.bind (idx r7.1 1) fun y74 => cond (decide (y74 = 3)) (cond (!r9.2) (Option.bind (run_Long k (Venue.mk [Seat.mk 0 0 0 0, Seat.mk 0 10 0 0, Seat.mk 0 21 0 0, Seat.mk 0 31 0 0, Seat.mk 1 35 0 0] 10 0 [] []) [true, true, true, true, true] 0) fun r78 => cond (decide (r78 = 2)) (Option.bind (slc [true, true, true, true, true] 0 1) fun y81 => Option.bind (run_Long k (Venue.mk [Seat.mk 0 0 0 0, Seat.mk 0 10 0 0, Seat.mk 0 21 0 0, Seat.mk 0 31 0 0, Seat.mk 1 35 0 0] 10 0 [] []) y81 0) fun r83 => cond (decide (r83 = 1)) (Option.bind (run_Long k (Venue.mk [Seat.mk 0 0 0 0, Seat.mk 0 10 0 0, Seat.mk 0 21 0 0, Seat.mk 0 31 0 0, Seat.mk 1 35 0 0] 10 0 [] []) [] 0) fun r86 => cond (decide (r86 = 0)) (Option.bind (run_Runs k (Venue.mk [] 0 0 [] []) [true, true, true, true, true]) fun r89 => some (decide ((r89.length : Int) = 0))) (some false)) (some false)) (some false)) (some false)) (some false)) (some false)) (some false)) (some false)) (some false)) (some false)) (some false)) (some false)) (some false)) (some false)
def ref6_is (k : Nat) (a0 : (List Bool)) (a1 : Int) : Option (Bool) :=
  cond (decide (0 ≤ a1)) (cond (decide (a1 < (a0.length : Int))) (Option.bind (idx a0 a1) fun y3 => some y3) (some false)) (some false)
def ref6_next (k : Nat) (a0 : Venue) (a1 : Int) : Option (Bool) :=
  Option.bind (ref6_seat k a0 a1) fun r16 => cond r16 (Option.bind (ref6_seat k a0 (wr (a1 + 1))) fun r19 => cond r19 (Option.bind (idx a0.Seats a1) fun y22 => Option.bind (idx a0.Seats (wr (a1 + 1))) fun y24 => cond (decide (y22.Row = y24.Row)) (Option.bind (idx a0.Seats (wr (a1 + 1))) fun y27 => Option.bind (idx a0.Seats a1) fun y29 => some (decide ((wr (y27.X - y29.X)) ≤ a0.Gap))) (some false)) (some false)) (some false)
def ref6_long_l0 (k : Nat) (a0 : Venue) (a1 : (List Bool)) (a2 : Int) : Nat → Int → Option (Int)
  | 0, _ => none
  | n + 1, v31 => Option.bind (ref6_next k a0 (wr ((wr (a2 + v31)) - 1))) fun r32 => cond r32 (Option.bind (ref6_is k a1 (wr (a2 + v31))) fun r35 => cond r35 (ref6_long_l0 k a0 a1 a2 n (wr (v31 + 1))) (some v31)) (some v31)
def ref6_long (k : Nat) (a0 : Venue) (a1 : (List Bool)) (a2 : Int) : Option (Int) :=
  Option.bind (Option.bind (ref6_seat k a0 a2) fun r9 => cond (!r9) (some true) (Option.bind (ref6_is k a1 a2) fun r12 => some (!r12))) fun o6 => cond o6 (some 0) (Option.bind (ref6_long_l0 k a0 a1 a2 k 1) fun o28 => some o28)
def ref6_Long (k : Nat) (a0 : Venue) (a1 : (List Bool)) (a2 : Int) : Option (Int) :=
  Option.bind (ref2_May k a0) fun r1 => cond (!r1) (some 0) (Option.bind (ref6_long k a0 a1 a2) fun r4 => some r4)
def ref6_row_l0 (k : Nat) (a0 : Int) (a1 : Int) : Nat → (List Int) → Int → Option ((List Int))
  | 0, _, _ => none
  | n + 1, v10, v11 => cond (decide (v11 < a1)) (gd (decide (v10.length + ([wr (a0 + v11)]).length ≤ 4294967296)) (ref6_row_l0 k a0 a1 n (v10 ++ [wr (a0 + v11)]) (wr (v11 + 1)))) (some v10)
def ref6_row (k : Nat) (a0 : Int) (a1 : Int) : Option ((List Int)) :=
  Option.bind (ref6_row_l0 k a0 a1 k [] 0) fun o7 => some o7
def ref6_Run (k : Nat) (a0 : Venue) (a1 : (List Bool)) (a2 : Int) (a3 : Int) : Option ((List Int) × Bool) :=
  cond (decide (a3 < 1)) (some ([], false)) (Option.bind (ref6_Long k a0 a1 a2) fun r2 => cond (decide (r2 < a3)) (some ([], false)) (Option.bind (ref6_row k a2 a3) fun r5 => some (r5, true)))
def ref6_Next (k : Nat) (a0 : Venue) (a1 : Int) : Option (Bool) :=
  cond (decide (a1 < 4611686018427387904)) (Option.bind (ref2_May k a0) fun r2 => cond r2 (Option.bind (ref6_next k a0 a1) fun r5 => some r5) (some false)) (some false)
def ref6_Runs_l0 (k : Nat) (a0 : Venue) (a1 : (List Bool)) : Nat → (List (List Int)) → Int → Option ((List (List Int)))
  | 0, _, _ => none
  | n + 1, v23, v24 => cond (decide (v24 < (a0.Seats.length : Int))) (Option.bind (ref6_long k a0 a1 v24) fun r26 => cond (decide (0 < r26)) (Option.bind (ref6_row k v24 r26) fun r29 => gd (decide (v23.length + ([r29]).length ≤ 4294967296)) (ref6_Runs_l0 k a0 a1 n (v23 ++ [r29]) (wr (v24 + (if 1 > r26 then 1 else r26))))) (ref6_Runs_l0 k a0 a1 n v23 (wr (v24 + (if 1 > r26 then 1 else r26))))) (some v23)
def ref6_Runs (k : Nat) (a0 : Venue) (a1 : (List Bool)) : Option ((List (List Int))) :=
  Option.bind (ref2_May k a0) fun r1 => cond (!r1) (some []) (Option.bind (ref6_Runs_l0 k a0 a1 k [] 0) fun o20 => some o20)
def law7_lists_l0 (k : Nat) (a0 : (List (List Int))) (a1 : (List (List Int))) : Nat → Int → Option (Ex (Unit) (Bool))
  | 0, _ => none
  | n + 1, v23 => cond (decide (v23 < (a0.length : Int))) (Option.bind (idx a0 v23) fun y31 => Option.bind (idx a1 v23) fun y33 => Option.bind (ref6_SameInts k y31 y33) fun r35 => cond (!r35) (some (Ex.rt false)) (law7_lists_l0 k a0 a1 n (wr (v23 + 1)))) (some (Ex.go ()))
def law7_lists (k : Nat) (a0 : (List (List Int))) (a1 : (List (List Int))) : Option (Bool) :=
  cond (!decide ((a0.length : Int) = (a1.length : Int))) (some false) (Option.bind (law7_lists_l0 k a0 a1 k 0) fun o19 => Ex.elim o19 (fun v22 => some true) (fun rr => some rr))
def law7_RunAsks_l0 (k : Nat) (a0 : Venue) (a1 : (List Bool)) : Nat → Int → Int → Int → Option (Ex (Unit) (Bool))
  | 0, _, _, _ => none
  | n + 1, v74, v75, v76 => cond (decide (v76 < 2)) (Option.bind (run_Of k a0 a1 v74 v75) fun r78 => Option.bind (ref6_Run k a0 a1 v74 v75) fun r80 => Option.bind (run_Next k a0 v74) fun r102 => Option.bind (ref6_Next k a0 v74) fun r104 => cond (!(r102 == r104)) (some (Ex.rt false)) (Option.bind (run_Long k a0 a1 v74) fun r107 => Option.bind (ref6_Long k a0 a1 v74) fun r109 => cond (!decide (r107 = r109)) (some (Ex.rt false)) (cond (!(r78.2 == r80.2)) (some (Ex.rt false)) (Option.bind (ref6_SameInts k r78.1 r80.1) fun r113 => cond (!r113) (some (Ex.rt false)) (Option.bind (run_Runs k a0 a1) fun r116 => Option.bind (ref6_Runs k a0 a1) fun r118 => Option.bind (law7_lists k r116 r118) fun r120 => cond (!r120) (some (Ex.rt false)) (gd (decide ((IntKind.u64.wrap (wr ((a0.Seats.length : Int) + 1))) ≠ 0)) (law7_RunAsks_l0 k a0 a1 n (wr ((IntKind.u64.wrap v74).tmod (IntKind.u64.wrap (wr ((a0.Seats.length : Int) + 1))))) (wr (1 + (wr ((IntKind.u64.wrap v75).tmod 6)))) (wr (v76 + 1))))))))) (some (Ex.go ()))
def law7_RunAsks (k : Nat) (a0 : Venue) (a1 : (List Bool)) (a2 : Int) (a3 : Int) : Option (Bool) :=
  Option.bind (Option.bind (law3_Few k a0) fun r7 => cond (!r7) (some true) (some (decide (50 < (a1.length : Int))))) fun o4 => cond o4 (Option.bind (law7_told k ) fun r11 => some r11) (Option.bind (law7_RunAsks_l0 k a0 a1 k a2 a3 0) fun o70 => Ex.elim o70 (fun v73 => Option.bind (law7_told k ) fun r124 => some r124) (fun rr => some rr))
def law7_RunPieces_l3 (k : Nat) (r1 : Venue) (r3 : (List (List Int))) (v282 : Int) : Nat → (List Int) → Int → Int → Option (Ex ((List Int) × Int) (Bool))
  | 0, _, _, _ => none
  | n + 1, v400, v401, v402 => Option.bind (idx r3 v282) fun y403 => cond (decide (v402 < (y403.length : Int))) (Option.bind (idx r3 v282) fun y406 => Option.bind (idx y406 v402) fun y408 => cond (decide (y408 ≤ v401)) (some (Ex.rt false)) (cond (decide ((r1.Seats.length : Int) ≤ y408)) (some (Ex.rt false)) (cond (decide (0 < v402)) (Option.bind (run_Next k r1 (wr (y408 - 1))) fun r413 => cond (!r413) (some (Ex.rt false)) (gd (decide ((0 : Int) ≤ y408 ∧ y408 < 40)) (Option.bind (idx v400 y408) fun y417 => gd (decide ((0 : Int) ≤ y408 ∧ y408 < 40)) (Option.bind (idx v400 y408) fun y420 => law7_RunPieces_l3 k r1 r3 v282 n (v400.set y408.toNat (wr (y417 + 1))) y408 (wr (v402 + 1)))))) (gd (decide ((0 : Int) ≤ y408 ∧ y408 < 40)) (Option.bind (idx v400 y408) fun y423 => gd (decide ((0 : Int) ≤ y408 ∧ y408 < 40)) (Option.bind (idx v400 y408) fun y426 => law7_RunPieces_l3 k r1 r3 v282 n (v400.set y408.toNat (wr (y423 + 1))) y408 (wr (v402 + 1)))))))) (some (Ex.go (v400, v401)))
def law7_RunPieces_l2 (k : Nat) (a1 : (List Bool)) (r1 : Venue) (r3 : (List (List Int))) : Nat → (List Int) → Int → Int → Option (Ex ((List Int)) (Bool))
  | 0, _, _, _ => none
  | n + 1, v280, v281, v282 => cond (decide (v282 < (r3.length : Int))) (Option.bind (Option.bind (idx r3 v282) fun y309 => cond (decide ((y309.length : Int) = 0)) (some true) (Option.bind (idx r3 v282) fun y312 => Option.bind (idx r3 v282) fun y314 => Option.bind (idx y314 0) fun y316 => Option.bind (run_Long k r1 a1 y316) fun r318 => some (!decide ((y312.length : Int) = r318)))) fun o295 => cond o295 (some (Ex.rt false)) (Option.bind (idx r3 v282) fun y321 => Option.bind (idx y321 0) fun y323 => Option.bind (cond (decide (0 < y323)) (Option.bind (run_Next k r1 (wr (y323 - 1))) fun r336 => cond r336 (cond (decide ((wr (y323 - 1)) < (a1.length : Int))) (Option.bind (idx a1 (wr (y323 - 1))) fun y340 => some y340) (some false)) (some false)) (some false)) fun o332 => cond o332 (some (Ex.rt false)) (Option.bind (law7_RunPieces_l3 k r1 r3 v282 k v280 v281 0) fun o396 => Ex.elim o396 (fun v399 => law7_RunPieces_l2 k a1 r1 r3 n v399.1 v399.2 (wr (v282 + 1))) (fun rr => some (Ex.rt rr))))) (some (Ex.go v280))
def law7_RunPieces_l4 (k : Nat) (a1 : (List Bool)) (r1 : Venue) (v279 : ((List Int))) : Nat → Int → Option (Ex (Unit) (Bool))
  | 0, _ => none
  | n + 1, v461 => cond (decide (v461 < (r1.Seats.length : Int))) (Option.bind (cond (decide (v461 < (a1.length : Int))) (Option.bind (idx a1 v461) fun y470 => some y470) (some false)) fun o466 => gd (decide ((0 : Int) ≤ v461 ∧ v461 < 40)) (Option.bind (idx v279 v461) fun y473 => cond (!((decide (y473 = 1)) == o466)) (some (Ex.rt false)) (law7_RunPieces_l4 k a1 r1 v279 n (wr (v461 + 1))))) (some (Ex.go ()))
def law7_RunPieces (k : Nat) (a0 : (List Int)) (a1 : (List Bool)) : Option (Bool) :=
  Option.bind (law3_Make k a0 30) fun r1 => Option.bind (run_Runs k r1 a1) fun r3 => Option.bind (law7_RunPieces_l2 k a1 r1 r3 k (List.replicate 40 0) (-1) 0) fun o276 => Ex.elim o276 (fun v279 => Option.bind (law7_RunPieces_l4 k a1 r1 v279 k 0) fun o457 => Ex.elim o457 (fun v460 => Option.bind (law7_told k ) fun r476 => cond r476 (Option.bind (ref2_May k r1) fun r479 => some r479) (some false)) (fun rr => some rr)) (fun rr => some rr)
def law7_RunOf_l0 (k : Nat) (a2 : Int) (r1 : Venue) (r4 : (List Int) × Bool) : Nat → Int → Option (Ex (Unit) (Bool))
  | 0, _ => none
  | n + 1, v37 => cond (decide (v37 < (r4.1.length : Int))) (Option.bind (idx r4.1 v37) fun y39 => cond (!decide (y39 = (wr ((wr ((IntKind.u64.wrap a2).tmod (IntKind.u64.wrap (r1.Seats.length : Int)))) + v37)))) (some (Ex.rt false)) (law7_RunOf_l0 k a2 r1 r4 n (wr (v37 + 1)))) (some (Ex.go ()))
def law7_RunOf (k : Nat) (a0 : (List Int)) (a1 : (List Bool)) (a2 : Int) (a3 : Int) : Option (Bool) :=
  Option.bind (law3_Make k a0 30) fun r1 => gd (decide ((IntKind.u64.wrap (r1.Seats.length : Int)) ≠ 0)) (Option.bind (run_Of k r1 a1 (wr ((IntKind.u64.wrap a2).tmod (IntKind.u64.wrap (r1.Seats.length : Int)))) (wr ((IntKind.u64.wrap a3).tmod 10))) fun r4 => Option.bind (cond (decide (1 ≤ (wr ((IntKind.u64.wrap a3).tmod 10)))) (Option.bind (run_Long k r1 a1 (wr ((IntKind.u64.wrap a2).tmod (IntKind.u64.wrap (r1.Seats.length : Int))))) fun r17 => cond (!(r4.2 == (decide ((wr ((IntKind.u64.wrap a3).tmod 10)) ≤ r17)))) (some true) (cond (!r4.2) (some (!decide ((r4.1.length : Int) = 0))) (some false))) (cond (!(r4.2 == false)) (some true) (cond (!r4.2) (some (!decide ((r4.1.length : Int) = 0))) (some false)))) fun o13 => cond o13 (some false) (Option.bind (law7_RunOf_l0 k a2 r1 r4 k 0) fun o33 => Ex.elim o33 (fun v36 => Option.bind (law7_told k ) fun r42 => cond r42 (cond (!r4.2) (some true) (some (decide ((r4.1.length : Int) = (wr ((IntKind.u64.wrap a3).tmod 10)))))) (some false)) (fun rr => some rr)))
def law7_RunGap_l0 (k : Nat) (a1 : (List Bool)) (a2 : Int) (r1 : Venue) : Nat → Int → Option (Ex (Unit) (Bool))
  | 0, _ => none
  | n + 1, v42 => cond (decide (v42 < (r1.Seats.length : Int))) (Option.bind (run_Next k r1 v42) fun r58 => cond r58 (Option.bind (run_Next k (Venue.mk r1.Seats (wr (r1.Gap + (wr ((IntKind.u64.wrap a2).tmod 20)))) r1.Radius r1.Kills r1.Poles) v42) fun r61 => cond (!r61) (some (Ex.rt false)) (Option.bind (run_Long k r1 a1 v42) fun r64 => Option.bind (run_Long k (Venue.mk r1.Seats (wr (r1.Gap + (wr ((IntKind.u64.wrap a2).tmod 20)))) r1.Radius r1.Kills r1.Poles) a1 v42) fun r66 => cond (decide (r66 < r64)) (some (Ex.rt false)) (law7_RunGap_l0 k a1 a2 r1 n (wr (v42 + 1))))) (Option.bind (run_Long k r1 a1 v42) fun r69 => Option.bind (run_Long k (Venue.mk r1.Seats (wr (r1.Gap + (wr ((IntKind.u64.wrap a2).tmod 20)))) r1.Radius r1.Kills r1.Poles) a1 v42) fun r71 => cond (decide (r71 < r69)) (some (Ex.rt false)) (law7_RunGap_l0 k a1 a2 r1 n (wr (v42 + 1))))) (some (Ex.go ()))
def law7_RunGap (k : Nat) (a0 : (List Int)) (a1 : (List Bool)) (a2 : Int) : Option (Bool) :=
  Option.bind (law3_Make k a0 30) fun r1 => Option.bind (law7_RunGap_l0 k a1 a2 r1 k 0) fun o38 => Ex.elim o38 (fun v41 => Option.bind (law7_told k ) fun r81 => cond r81 (Option.bind (run_Runs k (Venue.mk r1.Seats (wr (r1.Gap + (wr ((IntKind.u64.wrap a2).tmod 20)))) r1.Radius r1.Kills r1.Poles) a1) fun r84 => Option.bind (run_Runs k r1 a1) fun r86 => some (decide ((r84.length : Int) ≤ (r86.length : Int)))) (some false)) (fun rr => some rr)
def slices_Index_int_l0 (k : Nat) (a0 : (List Int)) (a1 : Int) : Nat → Int → Option (Ex (Unit) (Int))
  | 0, _ => none
  | n + 1, v14 => cond (decide (v14 < (a0.length : Int))) (Option.bind (idx a0 v14) fun y16 => cond (decide (a1 = y16)) (some (Ex.rt v14)) (slices_Index_int_l0 k a0 a1 n (wr (v14 + 1)))) (some (Ex.go ()))
def slices_Index_int (k : Nat) (a0 : (List Int)) (a1 : Int) : Option (Int) :=
  Option.bind (slices_Index_int_l0 k a0 a1 k 0) fun o10 => Ex.elim o10 (fun v13 => some (-1)) (fun rr => some rr)
def slices_Contains_int (k : Nat) (a0 : (List Int)) (a1 : Int) : Option (Bool) :=
  Option.bind (slices_Index_int k a0 a1) fun r1 => some (decide (0 ≤ r1))
def kill_by_l0 (k : Nat) (a0 : Venue) (a1 : Int) : Nat → (List Int) → Int → Option ((List Int))
  | 0, _, _ => none
  | n + 1, v33, v34 => cond (decide (v34 < (a0.Poles.length : Int))) (Option.bind (idx a0.Poles v34) fun y36 => Option.bind (idx a0.Seats a1) fun y42 => Option.bind (geom_Close k y42 (Seat.mk 0 y36.X y36.Y 0) y36.R) fun r44 => cond r44 (gd (decide (v33.length + ([v34]).length ≤ 4294967296)) (kill_by_l0 k a0 a1 n (v33 ++ [v34]) (wr (v34 + 1)))) (kill_by_l0 k a0 a1 n v33 (wr (v34 + 1)))) (some v33)
def kill_by (k : Nat) (a0 : Venue) (a1 : Int) : Option ((List Int)) :=
  Option.bind (slices_Contains_int k a0.Kills a1) fun r1 => Option.bind (cond r1 (gd (decide (([(-1)]).length ≤ 4294967296)) (some [(-1)])) (some [])) fun o5 => Option.bind (kill_by_l0 k a0 a1 k o5 0) fun o30 => some o30
def kill_Usable_l0 (k : Nat) (a0 : Venue) : Nat → (List Bool) → Int → Option ((List Bool))
  | 0, _, _ => none
  | n + 1, v20, v21 => cond (decide (v21 < ((List.replicate (a0.Seats.length : Int).toNat false).length : Int))) (Option.bind (kill_by k a0 v21) fun r23 => Option.bind (idx v20 v21) fun y25 => kill_Usable_l0 k a0 n (v20.set v21.toNat (decide ((r23.length : Int) = 0))) (wr (v21 + 1))) (some v20)
def kill_Usable (k : Nat) (a0 : Venue) : Option ((List Bool)) :=
  Option.bind (venue_May k a0) fun r1 => cond (!r1) (some []) (gd (decide ((0 : Int) ≤ (a0.Seats.length : Int) ∧ (a0.Seats.length : Int) ≤ 4294967296)) (Option.bind (kill_Usable_l0 k a0 k (List.replicate (a0.Seats.length : Int).toNat false) 0) fun o17 => some o17))
def kill_Killed_l0 (k : Nat) (r1 : (List Bool)) : Nat → (List Int) → Int → Option ((List Int))
  | 0, _, _ => none
  | n + 1, v18, v19 => cond (decide (v19 < (r1.length : Int))) (Option.bind (idx r1 v19) fun y21 => cond (!y21) (gd (decide (v18.length + ([v19]).length ≤ 4294967296)) (kill_Killed_l0 k r1 n (v18 ++ [v19]) (wr (v19 + 1)))) (kill_Killed_l0 k r1 n v18 (wr (v19 + 1)))) (some v18)
def kill_Killed (k : Nat) (a0 : Venue) : Option ((List Int)) :=
  Option.bind (kill_Usable k a0) fun r1 => Option.bind (kill_Killed_l0 k r1 k [] 0) fun o15 => some o15
def kill_By (k : Nat) (a0 : Venue) (a1 : Int) : Option ((List Int)) :=
  Option.bind (cond (decide (a1 < 0)) (some (Ex.rt [])) (cond (decide ((a0.Seats.length : Int) ≤ a1)) (some (Ex.rt [])) (Option.bind (venue_May k a0) fun r12 => cond (!r12) (some (Ex.rt [])) (some (Ex.go ()))))) fun o6 => Ex.elim o6 (fun v9 => Option.bind (kill_by k a0 a1) fun r15 => some r15) (fun rr => some rr)
def law8_told (k : Nat)  : Option (Bool) :=
  Option.bind (kill_Usable k (Venue.mk [Seat.mk 0 0 0 0, Seat.mk 0 3 0 0, Seat.mk 0 9 0 0] 1 0 [2] [Pole.mk 0 0 3, Pole.mk 9 0 1])) fun r1 => Option.bind (kill_Killed k (Venue.mk [Seat.mk 0 0 0 0, Seat.mk 0 3 0 0, Seat.mk 0 9 0 0] 1 0 [2] [Pole.mk 0 0 3, Pole.mk 9 0 1])) fun r3 => Option.bind (kill_By k (Venue.mk [Seat.mk 0 0 0 0, Seat.mk 0 3 0 0, Seat.mk 0 9 0 0] 1 0 [2] [Pole.mk 0 0 3, Pole.mk 9 0 1]) 2) fun r5 => cond (decide ((r1.length : Int) = 3)) (Option.bind (idx r1 0) fun y8 => cond (!y8) (Option.bind (idx r1 1) fun y11 => cond y11 (Option.bind (idx r1 2) fun y14 => cond (!y14) (cond (decide ((r3.length : Int) = 2)) (Option.bind (idx r3 1) fun y18 => cond (decide (y18 = 2)) (cond (decide ((r5.length : Int) = 2)) (Option.bind (idx r5 0) fun y22 => cond (decide (y22 = (-1))) (Option.bind (idx r5 1) fun y25 => cond (decide (y25 = 1)) (Option.bind (kill_By k (Venue.mk [Seat.mk 0 0 0 0, Seat.mk 0 3 0 0, Seat.mk 0 9 0 0] 1 0 [2] [Pole.mk 0 0 3, Pole.mk 9 0 1]) 3) fun r28 => cond (decide ((r28.length : Int) = 0)) (Option.bind (kill_Usable k (Venue.mk [] 0 0 [] [])) fun r31 => some (decide ((r31.length : Int) = 0))) (some false)) (some false)) (some false)) (some false)) (some false)) (some false)) (some false)) (some false)) (some false)) (some false)
def ref6_killedBy_l0 (k : Nat) (a0 : Venue) (a1 : Int) : Nat → (List Int) → Int → Option ((List Int))
  | 0, _, _ => none
  | n + 1, v16, v17 => cond (decide (v17 < (a0.Kills.length : Int))) (Option.bind (idx a0.Kills v17) fun y19 => cond (decide (y19 = a1)) (gd (decide (v16.length + ([(-1)]).length ≤ 4294967296)) (ref6_killedBy_l0 k a0 a1 n (v16 ++ [(-1)]) (wr (v17 + 1)))) (ref6_killedBy_l0 k a0 a1 n v16 (wr (v17 + 1)))) (some v16)
def ref6_killedBy_l1 (k : Nat) (a0 : Venue) (a1 : Int) : Nat → (List Int) → Int → Option ((List Int))
  | 0, _, _ => none
  | n + 1, v50, v51 => cond (decide (v51 < (a0.Poles.length : Int))) (Option.bind (idx a0.Poles v51) fun y53 => Option.bind (idx a0.Seats a1) fun y61 => Option.bind (ref6_Far k y61 (Seat.mk 0 y53.X y53.Y 0)) fun r63 => Option.bind (ref6_square k y53.R 0) fun r65 => cond (decide (r63 < r65)) (gd (decide (v50.length + ([v51]).length ≤ 4294967296)) (ref6_killedBy_l1 k a0 a1 n (v50 ++ [v51]) (wr (v51 + 1)))) (ref6_killedBy_l1 k a0 a1 n v50 (wr (v51 + 1)))) (some v50)
def ref6_killedBy (k : Nat) (a0 : Venue) (a1 : Int) : Option ((List Int)) :=
  Option.bind (ref6_killedBy_l0 k a0 a1 k [] 0) fun o13 => Option.bind (ref6_killedBy_l1 k a0 a1 k o13 0) fun o47 => some o47
def ref6_Usable_l0 (k : Nat) (a0 : Venue) : Nat → (List Bool) → Int → Option ((List Bool))
  | 0, _, _ => none
  | n + 1, v20, v21 => cond (decide (v21 < (v20.length : Int))) (Option.bind (ref6_killedBy k a0 v21) fun r23 => Option.bind (idx v20 v21) fun y25 => ref6_Usable_l0 k a0 n (v20.set v21.toNat (decide ((r23.length : Int) = 0))) (wr (v21 + 1))) (some v20)
def ref6_Usable (k : Nat) (a0 : Venue) : Option ((List Bool)) :=
  Option.bind (ref2_May k a0) fun r1 => cond (!r1) (some []) (gd (decide ((0 : Int) ≤ (a0.Seats.length : Int) ∧ (a0.Seats.length : Int) ≤ 4294967296)) (Option.bind (ref6_Usable_l0 k a0 k (List.replicate (a0.Seats.length : Int).toNat false) 0) fun o17 => some o17))
def law8_bools_l0 (k : Nat) (a0 : (List Bool)) (a1 : (List Bool)) : Nat → Int → Option (Ex (Unit) (Bool))
  | 0, _ => none
  | n + 1, v19 => cond (decide (v19 < (a0.length : Int))) (Option.bind (idx a0 v19) fun y25 => Option.bind (idx a1 v19) fun y27 => cond (!(y25 == y27)) (some (Ex.rt false)) (law8_bools_l0 k a0 a1 n (wr (v19 + 1)))) (some (Ex.go ()))
def law8_bools (k : Nat) (a0 : (List Bool)) (a1 : (List Bool)) : Option (Bool) :=
  cond (!decide ((a0.length : Int) = (a1.length : Int))) (some false) (Option.bind (law8_bools_l0 k a0 a1 k 0) fun o15 => Ex.elim o15 (fun v18 => some true) (fun rr => some rr))
def ref6_By (k : Nat) (a0 : Venue) (a1 : Int) : Option ((List Int)) :=
  Option.bind (ref2_May k a0) fun r1 => cond (!r1) (some []) (Option.bind (ref6_seat k a0 a1) fun r4 => cond (!r4) (some []) (Option.bind (ref6_killedBy k a0 a1) fun r7 => some r7))
def law8_KillAsks_l0 (k : Nat) (r6 : (List Bool)) : Nat → (List Int) → Int → Option ((List Int))
  | 0, _, _ => none
  | n + 1, v23, v24 => cond (decide (v24 < (r6.length : Int))) (Option.bind (idx r6 v24) fun y26 => cond (!y26) (gd (decide (v23.length + ([v24]).length ≤ 4294967296)) (law8_KillAsks_l0 k r6 n (v23 ++ [v24]) (wr (v24 + 1)))) (law8_KillAsks_l0 k r6 n v23 (wr (v24 + 1)))) (some v23)
def law8_KillAsks (k : Nat) (a0 : Venue) (a1 : Int) : Option (Bool) :=
  Option.bind (law3_Few k a0) fun r1 => cond (!r1) (Option.bind (law8_told k ) fun r4 => some r4) (Option.bind (ref6_Usable k a0) fun r6 => Option.bind (law8_KillAsks_l0 k r6 k [] 0) fun o20 => Option.bind (law8_told k ) fun r59 => cond r59 (Option.bind (kill_Usable k a0) fun r62 => Option.bind (law8_bools k r62 r6) fun r64 => cond r64 (Option.bind (kill_Killed k a0) fun r67 => Option.bind (ref6_SameInts k r67 o20) fun r69 => cond r69 (Option.bind (kill_By k a0 a1) fun r72 => Option.bind (ref6_By k a0 a1) fun r74 => Option.bind (ref6_SameInts k r72 r74) fun r76 => cond r76 (cond (decide ((a0.Seats.length : Int) = 0)) (some true) (gd (decide ((IntKind.u64.wrap (a0.Seats.length : Int)) ≠ 0)) (Option.bind (kill_By k a0 (wr ((IntKind.u64.wrap a1).tmod (IntKind.u64.wrap (a0.Seats.length : Int))))) fun r81 => gd (decide ((IntKind.u64.wrap (a0.Seats.length : Int)) ≠ 0)) (Option.bind (ref6_By k a0 (wr ((IntKind.u64.wrap a1).tmod (IntKind.u64.wrap (a0.Seats.length : Int))))) fun r84 => Option.bind (ref6_SameInts k r81 r84) fun r86 => some r86)))) (some false)) (some false)) (some false)) (some false))
def law8_KillMore_l0 (k : Nat) (r20 : (List Bool)) (r22 : (List Bool)) : Nat → Int → Option (Ex (Unit) (Bool))
  | 0, _ => none
  | n + 1, v49 => cond (decide (v49 < (r20.length : Int))) (Option.bind (idx r22 v49) fun y51 => cond y51 (Option.bind (idx r20 v49) fun y54 => cond (!y54) (some (Ex.rt false)) (law8_KillMore_l0 k r20 r22 n (wr (v49 + 1)))) (law8_KillMore_l0 k r20 r22 n (wr (v49 + 1)))) (some (Ex.go ()))
def law8_KillMore (k : Nat) (a0 : (List Int)) (a1 : Int) (a2 : Int) : Option (Bool) :=
  Option.bind (law3_Make k a0 30) fun r1 => gd (decide ((IntKind.u64.wrap (r1.Seats.length : Int)) ≠ 0)) (gd (decide ((([] : List Pole)).length + r1.Poles.length ≤ 4294967296)) (Option.bind (idx r1.Seats (wr ((IntKind.u64.wrap a1).tmod (IntKind.u64.wrap (r1.Seats.length : Int))))) fun y11 => Option.bind (idx r1.Seats (wr ((IntKind.u64.wrap a1).tmod (IntKind.u64.wrap (r1.Seats.length : Int))))) fun y13 => gd (decide ((([] : List Pole) ++ r1.Poles).length + ([Pole.mk y11.X y13.Y (wr (1 + (wr ((IntKind.u64.wrap a2).tmod 30))))]).length ≤ 4294967296)) (Option.bind (kill_Usable k r1) fun r20 => Option.bind (kill_Usable k (Venue.mk r1.Seats r1.Gap r1.Radius r1.Kills ((([] : List Pole) ++ r1.Poles) ++ [Pole.mk y11.X y13.Y (wr (1 + (wr ((IntKind.u64.wrap a2).tmod 30))))]))) fun r22 => Option.bind (cond (!decide ((r20.length : Int) = (r1.Seats.length : Int))) (some true) (some (!decide ((r22.length : Int) = (r20.length : Int))))) fun o25 => cond o25 (some false) (Option.bind (law8_KillMore_l0 k r20 r22 k 0) fun o45 => Ex.elim o45 (fun v48 => Option.bind (law8_told k ) fun r57 => cond r57 (Option.bind (idx r22 (wr ((IntKind.u64.wrap a1).tmod (IntKind.u64.wrap (r1.Seats.length : Int))))) fun y60 => some (!y60)) (some false)) (fun rr => some rr)))))
def law8_KillParts_l0 (k : Nat) (a1 : (List Int)) : Nat → (List Pole) → Int → Option ((List Pole))
  | 0, _, _ => none
  | n + 1, v26, v27 => cond (decide ((wr (v27 + 2)) < (a1.length : Int))) (cond (decide (v27 < 15)) (Option.bind (idx a1 v27) fun y37 => Option.bind (idx a1 (wr (v27 + 1))) fun y39 => Option.bind (idx a1 (wr (v27 + 2))) fun y41 => gd (decide (v26.length + ([Pole.mk (wr ((IntKind.u64.wrap y37).tmod 200)) (wr ((IntKind.u64.wrap y39).tmod 60)) (wr (1 + (wr ((IntKind.u64.wrap y41).tmod 40))))]).length ≤ 4294967296)) (law8_KillParts_l0 k a1 n (v26 ++ [Pole.mk (wr ((IntKind.u64.wrap y37).tmod 200)) (wr ((IntKind.u64.wrap y39).tmod 60)) (wr (1 + (wr ((IntKind.u64.wrap y41).tmod 40))))]) (wr (v27 + 3)))) (some v26)) (some v26)
def law8_KillParts_l4 (k : Nat) (r178 : (List Int)) : Nat → Int → Option (Ex (Unit) (Bool))
  | 0, _ => none
  | n + 1, v197 => cond (decide (v197 < (r178.length : Int))) (Option.bind (idx r178 v197) fun y203 => Option.bind (idx r178 (wr (v197 - 1))) fun y205 => cond (decide (y203 ≤ y205)) (some (Ex.rt false)) (law8_KillParts_l4 k r178 n (wr (v197 + 1)))) (some (Ex.go ()))
def law8_KillParts_l3 (k : Nat) (o23 : ((List Pole))) (r1 : Venue) (r48 : (List Bool)) (r50 : (List Int)) : Nat → Int → Int → Option (Ex (Int) (Bool))
  | 0, _, _ => none
  | n + 1, v159, v160 => cond (decide (v160 < (r48.length : Int))) (Option.bind (idx r48 v160) fun y162 => Option.bind (cond (!y162) (cond (decide ((r50.length : Int) ≤ v159)) (some (Ex.rt false)) (Option.bind (idx r50 v159) fun y175 => cond (!decide (y175 = v160)) (some (Ex.rt false)) (some (Ex.go (wr (v159 + 1)))))) (some (Ex.go v159))) fun o169 => Ex.elim o169 (fun v172 => Option.bind (kill_By k (Venue.mk r1.Seats r1.Gap r1.Radius r1.Kills o23) v160) fun r178 => Option.bind (law8_KillParts_l4 k r178 k 1) fun o193 => Ex.elim o193 (fun v196 => cond (decide (0 < (r178.length : Int))) (Option.bind (idx r178 0) fun y215 => cond (decide (y215 < (-1))) (some (Ex.rt false)) (Option.bind (idx r178 (wr ((r178.length : Int) - 1))) fun y218 => cond (decide ((o23.length : Int) ≤ y218)) (some (Ex.rt false)) (law8_KillParts_l3 k o23 r1 r48 r50 n v172 (wr (v160 + 1))))) (law8_KillParts_l3 k o23 r1 r48 r50 n v172 (wr (v160 + 1)))) (fun rr => some (Ex.rt rr))) (fun rr => some (Ex.rt rr))) (some (Ex.go v159))
def law8_KillParts (k : Nat) (a0 : (List Int)) (a1 : (List Int)) : Option (Bool) :=
  Option.bind (law3_Make k a0 30) fun r1 => Option.bind (law8_KillParts_l0 k a1 k r1.Poles 0) fun o23 => Option.bind (kill_Usable k (Venue.mk r1.Seats r1.Gap r1.Radius r1.Kills o23)) fun r48 => Option.bind (kill_Killed k (Venue.mk r1.Seats r1.Gap r1.Radius r1.Kills o23)) fun r50 => cond (!decide ((r48.length : Int) = (r1.Seats.length : Int))) (some false) (Option.bind (law8_KillParts_l3 k o23 r1 r48 r50 k 0 0) fun o155 => Ex.elim o155 (fun v158 => Option.bind (law8_told k ) fun r221 => cond r221 (cond (decide (v158 = (r50.length : Int))) (Option.bind (kill_Killed k (Venue.mk r1.Seats r1.Gap r1.Radius r1.Kills o23)) fun r225 => Option.bind (ref6_SameInts k r50 r225) fun r227 => some r227) (some false)) (some false)) (fun rr => some rr))
def law8_KillNear_l0 (k : Nat) (r1 : Venue) : Nat → (List Bool) → Int → Option ((List Bool))
  | 0, _, _ => none
  | n + 1, v20, v21 => cond (decide (v21 < (r1.Kills.length : Int))) (Option.bind (idx r1.Kills v21) fun y23 => gd (decide ((0 : Int) ≤ y23 ∧ y23 < 40)) (Option.bind (idx v20 y23) fun y26 => law8_KillNear_l0 k r1 n (v20.set y23.toNat true) (wr (v21 + 1)))) (some v20)
def law8_KillNear_l4 (k : Nat) (r1 : Venue) (r157 : (List Int)) : Nat → (List Bool) → Int → Option (Ex ((List Bool)) (Bool))
  | 0, _, _ => none
  | n + 1, v189, v190 => cond (decide (v190 < (r157.length : Int))) (Option.bind (idx r157 v190) fun y197 => cond (decide (y197 < 0)) (some (Ex.rt false)) (Option.bind (idx r157 v190) fun y200 => cond (decide ((r1.Seats.length : Int) ≤ y200)) (some (Ex.rt false)) (Option.bind (idx r157 v190) fun y203 => gd (decide ((0 : Int) ≤ y203 ∧ y203 < 40)) (Option.bind (idx v189 y203) fun y206 => law8_KillNear_l4 k r1 r157 n (v189.set y203.toNat true) (wr (v190 + 1)))))) (some (Ex.go v189))
def law8_KillNear_l3 (k : Nat) (r1 : Venue) : Nat → (List Bool) → Int → Option (Ex ((List Bool)) (Bool))
  | 0, _, _ => none
  | n + 1, v140, v141 => cond (decide (v141 < (r1.Poles.length : Int))) (Option.bind (idx r1.Poles v141) fun y151 => Option.bind (idx r1.Poles v141) fun y153 => Option.bind (idx r1.Poles v141) fun y155 => Option.bind (geom_Near k r1 y151.X y153.Y y155.R) fun r157 => Option.bind (law8_KillNear_l4 k r1 r157 k v140 0) fun o185 => Ex.elim o185 (fun v188 => law8_KillNear_l3 k r1 n v188 (wr (v141 + 1))) (fun rr => some (Ex.rt rr))) (some (Ex.go v140))
def law8_KillNear_l5 (k : Nat) (r1 : Venue) (r208 : (List Bool)) (v139 : ((List Bool))) : Nat → Int → Option (Ex (Unit) (Bool))
  | 0, _ => none
  | n + 1, v242 => cond (decide (v242 < (r208.length : Int))) (Option.bind (idx r208 v242) fun y255 => gd (decide ((0 : Int) ≤ v242 ∧ v242 < 40)) (Option.bind (idx v139 v242) fun y258 => cond (y255 == y258) (some (Ex.rt false)) (Option.bind (kill_By k r1 v242) fun r261 => gd (decide ((0 : Int) ≤ v242 ∧ v242 < 40)) (Option.bind (idx v139 v242) fun y264 => cond (!((decide (0 < (r261.length : Int))) == y264)) (some (Ex.rt false)) (law8_KillNear_l5 k r1 r208 v139 n (wr (v242 + 1))))))) (some (Ex.go ()))
def law8_KillNear (k : Nat) (a0 : (List Int)) : Option (Bool) :=
  Option.bind (law3_Make k a0 30) fun r1 => Option.bind (law8_KillNear_l0 k r1 k (List.replicate 40 false) 0) fun o17 => Option.bind (law8_KillNear_l3 k r1 k o17 0) fun o136 => Ex.elim o136 (fun v139 => Option.bind (kill_Usable k r1) fun r208 => cond (!decide ((r208.length : Int) = (r1.Seats.length : Int))) (some false) (Option.bind (law8_KillNear_l5 k r1 r208 v139 k 0) fun o238 => Ex.elim o238 (fun v241 => Option.bind (law8_told k ) fun r267 => cond r267 (Option.bind (ref2_May k r1) fun r270 => some r270) (some false)) (fun rr => some rr))) (fun rr => some rr)
def place_In (k : Nat) (a0 : Venue) : Option (PlaceHall × Bool) :=
  Option.bind (kill_Usable k a0) fun r5 => Option.bind (venue_May k a0) fun r7 => some (PlaceHall.mk a0 r5, r7)
def party_May (k : Nat) (a0 : Party) : Option (Bool) :=
  cond (decide (a0.Size < 1)) (some false) (cond (decide (8 < a0.Size)) (some false) (cond (decide (a0.Wheels < 0)) (some false) (cond (decide (a0.Wheels ≤ 2)) (some (decide ((wr (2 * a0.Wheels)) ≤ a0.Size))) (some false))))
def place_Hall_kinds_1 (k : Nat) (a0 : Int) (a1 : (List Int)) (a2 : PlaceHall) : Option (Int) :=
  cond (decide (a0 < 0)) (some 0) (cond (decide ((a1.length : Int) ≤ a0)) (some 0) (Option.bind (idx a1 a0) fun y7 => Option.bind (idx a2.V.Seats y7) fun y9 => some y9.Kind))
def place_Hall_kinds_l0 (k : Nat) (a0 : PlaceHall) (a1 : (List Int)) : Nat → Int → Int → Int → Option (Ex (Int × Int) (Bool))
  | 0, _, _, _ => none
  | n + 1, v30, v31, v32 => cond (decide (v32 < (a1.length : Int))) (Option.bind (place_Hall_kinds_1 k v32 a1 a0) fun r34 => cond (decide (r34 = 1)) (Option.bind (place_Hall_kinds_1 k (wr (v32 - 1)) a1 a0) fun r37 => cond (!decide (r37 = 2)) (Option.bind (place_Hall_kinds_1 k (wr (v32 + 1)) a1 a0) fun r40 => cond (!decide (r40 = 2)) (some (Ex.rt false)) (place_Hall_kinds_l0 k a0 a1 n (wr (v30 + 1)) v31 (wr (v32 + 1)))) (place_Hall_kinds_l0 k a0 a1 n (wr (v30 + 1)) v31 (wr (v32 + 1)))) (cond (decide (r34 = 2)) (place_Hall_kinds_l0 k a0 a1 n v30 (wr (v31 + 1)) (wr (v32 + 1))) (place_Hall_kinds_l0 k a0 a1 n v30 v31 (wr (v32 + 1))))) (some (Ex.go (v30, v31)))
def place_Hall_kinds (k : Nat) (a0 : PlaceHall) (a1 : (List Int)) (a2 : Int) : Option (Bool) :=
  Option.bind (place_Hall_kinds_l0 k a0 a1 k 0 0 0) fun o26 => Ex.elim o26 (fun v29 => cond (decide (a2 = 0)) (cond (decide (0 < v29.2)) (some false) (cond (!decide (v29.1 = a2)) (some false) (some true))) (cond (!decide (v29.1 = a2)) (some false) (some true))) (fun rr => some rr)
def place_Hall_Seats (k : Nat) (a0 : PlaceHall) (a1 : Party) (a2 : Int) : Option ((List Int) × Bool) :=
  Option.bind (party_May k a1) fun r1 => cond (!r1) (some ([], false)) (Option.bind (run_Take k a0.V a0.usable a2 a1.Size) fun r4 => cond (!r4.2) (some ([], false)) (Option.bind (place_Hall_kinds k a0 r4.1 a1.Wheels) fun r7 => cond (!r7) (some ([], false)) (some (r4.1, true))))
def place_Hall_All_l0 (k : Nat) (a0 : PlaceHall) (a1 : Party) : Nat → (List Int) → Int → Option ((List Int))
  | 0, _, _ => none
  | n + 1, v16, v17 => cond (decide (v17 < (a0.V.Seats.length : Int))) (Option.bind (place_Hall_Seats k a0 a1 v17) fun r19 => cond r19.2 (gd (decide (v16.length + ([v17]).length ≤ 4294967296)) (place_Hall_All_l0 k a0 a1 n (v16 ++ [v17]) (wr (v17 + 1)))) (place_Hall_All_l0 k a0 a1 n v16 (wr (v17 + 1)))) (some v16)
def place_Hall_All (k : Nat) (a0 : PlaceHall) (a1 : Party) : Option ((List Int)) :=
  Option.bind (place_Hall_All_l0 k a0 a1 k [] 0) fun o13 => some o13
def place_All (k : Nat) (a0 : Venue) (a1 : Party) : Option ((List Int)) :=
  Option.bind (place_In k a0) fun r1 => cond (!r1.2) (some []) (Option.bind (place_Hall_All k r1.1 a1) fun r4 => some r4)
def place_Seats (k : Nat) (a0 : Venue) (a1 : Party) (a2 : Int) : Option ((List Int) × Bool) :=
  Option.bind (place_In k a0) fun r1 => cond (!r1.2) (some ([], false)) (Option.bind (place_Hall_Seats k r1.1 a1 a2) fun r4 => some (r4.1, r4.2))
def place_May (k : Nat) (a0 : Venue) (a1 : Party) (a2 : Int) : Option (Bool) :=
  Option.bind (place_Seats k a0 a1 a2) fun r1 => some r1.2
def place_Hall_Apart_l3 (k : Nat) (a0 : PlaceHall) (a3 : Party) (a4 : Int) (v74 : Int) : Nat → Int → Option (Ex (Unit) (Bool))
  | 0, _ => none
  | n + 1, v99 => cond (decide (v99 < (wr (a4 + a3.Size)))) (cond (decide (v74 = v99)) (some (Ex.rt false)) (Option.bind (idx a0.V.Seats v74) fun y109 => Option.bind (idx a0.V.Seats v99) fun y111 => Option.bind (geom_Close k y109 y111 a0.V.Radius) fun r113 => cond r113 (some (Ex.rt false)) (place_Hall_Apart_l3 k a0 a3 a4 v74 n (wr (v99 + 1))))) (some (Ex.go ()))
def place_Hall_Apart_l2 (k : Nat) (a0 : PlaceHall) (a1 : Party) (a2 : Int) (a3 : Party) (a4 : Int) : Nat → Int → Option (Ex (Unit) (Bool))
  | 0, _ => none
  | n + 1, v74 => cond (decide (v74 < (wr (a2 + a1.Size)))) (Option.bind (place_Hall_Apart_l3 k a0 a3 a4 v74 k a4) fun o95 => Ex.elim o95 (fun v98 => place_Hall_Apart_l2 k a0 a1 a2 a3 a4 n (wr (v74 + 1))) (fun rr => some (Ex.rt rr))) (some (Ex.go ()))
def place_Hall_Apart (k : Nat) (a0 : PlaceHall) (a1 : Party) (a2 : Int) (a3 : Party) (a4 : Int) : Option (Bool) :=
  Option.bind (place_Hall_Apart_l2 k a0 a1 a2 a3 a4 k a2) fun o70 => Ex.elim o70 (fun v73 => some true) (fun rr => some rr)
def place_Apart (k : Nat) (a0 : Venue) (a1 : Party) (a2 : Int) (a3 : Party) (a4 : Int) : Option (Bool) :=
  Option.bind (place_In k a0) fun r1 => cond (!r1.2) (some false) (Option.bind (place_Hall_Seats k r1.1 a1 a2) fun r4 => Option.bind (place_Hall_Seats k r1.1 a3 a4) fun r6 => cond r4.2 (cond r6.2 (Option.bind (place_Hall_Apart k r1.1 a1 a2 a3 a4) fun r10 => some r10) (some false)) (some false))
def law11_told (k : Nat)  : Option (Bool) :=
  Option.bind (place_Seats k (Venue.mk [Seat.mk 0 0 0 0, Seat.mk 0 10 0 2, Seat.mk 0 20 0 1, Seat.mk 0 30 0 0, Seat.mk 0 40 0 0, Seat.mk 0 50 0 0] 10 15 [] []) (Party.mk 2 1) 1) fun r1 => Option.bind (place_May k (Venue.mk [Seat.mk 0 0 0 0, Seat.mk 0 10 0 2, Seat.mk 0 20 0 1, Seat.mk 0 30 0 0, Seat.mk 0 40 0 0, Seat.mk 0 50 0 0] 10 15 [] []) (Party.mk 1 0) 0) fun r3 => cond r3 (Option.bind (place_May k (Venue.mk [Seat.mk 0 0 0 0, Seat.mk 0 10 0 2, Seat.mk 0 20 0 1, Seat.mk 0 30 0 0, Seat.mk 0 40 0 0, Seat.mk 0 50 0 0] 10 15 [] []) (Party.mk 1 0) 1) fun r6 => cond (!r6) (Option.bind (place_May k (Venue.mk [Seat.mk 0 0 0 0, Seat.mk 0 10 0 2, Seat.mk 0 20 0 1, Seat.mk 0 30 0 0, Seat.mk 0 40 0 0, Seat.mk 0 50 0 0] 10 15 [] []) (Party.mk 1 0) 2) fun r9 => cond (!r9) (Option.bind (place_May k (Venue.mk [Seat.mk 0 0 0 0, Seat.mk 0 10 0 2, Seat.mk 0 20 0 1, Seat.mk 0 30 0 0, Seat.mk 0 40 0 0, Seat.mk 0 50 0 0] 10 15 [] []) (Party.mk 2 1) 1) fun r12 => cond r12 (Option.bind (place_May k (Venue.mk [Seat.mk 0 0 0 0, Seat.mk 0 10 0 2, Seat.mk 0 20 0 1, Seat.mk 0 30 0 0, Seat.mk 0 40 0 0, Seat.mk 0 50 0 0] 10 15 [] []) (Party.mk 2 1) 2) fun r15 => cond (!r15) (cond r1.2 (cond (decide ((r1.1.length : Int) = 2)) (Option.bind (idx r1.1 1) fun y20 => cond (decide (y20 = 2)) (Option.bind (place_All k (Venue.mk [Seat.mk 0 0 0 0, Seat.mk 0 10 0 2, Seat.mk 0 20 0 1, Seat.mk 0 30 0 0, Seat.mk 0 40 0 0, Seat.mk 0 50 0 0] 10 15 [] []) (Party.mk 1 0)) fun r23 => Option.bind (ref6_SameInts k r23 [0, 3, 4, 5]) fun r25 => cond r25 (Option.bind (place_All k (Venue.mk [Seat.mk 0 0 0 0, Seat.mk 0 10 0 2, Seat.mk 0 20 0 1, Seat.mk 0 30 0 0, Seat.mk 0 40 0 0, Seat.mk 0 50 0 0] 10 15 [] []) (Party.mk 2 0)) fun r28 => Option.bind (ref6_SameInts k r28 [3, 4]) fun r30 => cond r30 (Option.bind (place_All k (Venue.mk [Seat.mk 0 0 0 0, Seat.mk 0 10 0 2, Seat.mk 0 20 0 1, Seat.mk 0 30 0 0, Seat.mk 0 40 0 0, Seat.mk 0 50 0 0] 10 15 [] []) (Party.mk 2 1)) fun r33 => Option.bind (ref6_SameInts k r33 [1]) fun r35 => cond r35 (Option.bind (place_Apart k (Venue.mk [Seat.mk 0 0 0 0, Seat.mk 0 10 0 2, Seat.mk 0 20 0 1, Seat.mk 0 30 0 0, Seat.mk 0 40 0 0, Seat.mk 0 50 0 0] 10 15 [] []) (Party.mk 1 0) 0 (Party.mk 1 0) 3) fun r38 => cond r38 (Option.bind (place_Apart k (Venue.mk [Seat.mk 0 0 0 0, Seat.mk 0 10 0 2, Seat.mk 0 20 0 1, Seat.mk 0 30 0 0, Seat.mk 0 40 0 0, Seat.mk 0 50 0 0] 10 15 [] []) (Party.mk 1 0) 3 (Party.mk 1 0) 4) fun r41 => cond (!r41) (Option.bind (place_Apart k (Venue.mk [Seat.mk 0 0 0 0, Seat.mk 0 10 0 2, Seat.mk 0 20 0 1, Seat.mk 0 30 0 0, Seat.mk 0 40 0 0, Seat.mk 0 50 0 0] 10 15 [] []) (Party.mk 1 0) 3 (Party.mk 1 0) 5) fun r44 => cond r44 (Option.bind (place_Apart k (Venue.mk [Seat.mk 0 0 0 0, Seat.mk 0 10 0 2, Seat.mk 0 20 0 1, Seat.mk 0 30 0 0, Seat.mk 0 40 0 0, Seat.mk 0 50 0 0] 10 15 [] []) (Party.mk 1 0) 3 (Party.mk 1 0) 3) fun r47 => cond (!r47) (Option.bind (place_May k (Venue.mk [] 0 0 [] []) (Party.mk 1 0) 0) fun r50 => some (!r50)) (some false)) (some false)) (some false)) (some false)) (some false)) (some false)) (some false)) (some false)) (some false)) (some false)) (some false)) (some false)) (some false)) (some false)) (some false)
def law11_PlaceLong_l0 (k : Nat) (a0 : Int) : Nat → (List Seat) → Int → Option ((List Seat))
  | 0, _, _ => none
  | n + 1, v10, v11 => cond (decide (v11 < (wr (1 + (wr ((IntKind.u64.wrap a0).tmod 40)))))) (gd (decide (v10.length + ([Seat.mk 0 (wr (10 * v11)) 0 0]).length ≤ 4294967296)) (law11_PlaceLong_l0 k a0 n (v10 ++ [Seat.mk 0 (wr (10 * v11)) 0 0]) (wr (v11 + 1)))) (some v10)
def law11_PlaceLong_l1 (k : Nat) (r14 : (List Int)) : Nat → Int → Option (Ex (Unit) (Bool))
  | 0, _ => none
  | n + 1, v29 => cond (decide (v29 < (r14.length : Int))) (Option.bind (idx r14 v29) fun y31 => cond (!decide (y31 = v29)) (some (Ex.rt false)) (law11_PlaceLong_l1 k r14 n (wr (v29 + 1)))) (some (Ex.go ()))
def law11_PlaceLong (k : Nat) (a0 : Int) (a1 : Int) : Option (Bool) :=
  Option.bind (law11_PlaceLong_l0 k a0 k [] 0) fun o7 => Option.bind (place_All k (Venue.mk o7 10 0 [] []) (Party.mk (wr (1 + (wr ((IntKind.u64.wrap a1).tmod 8)))) 0)) fun r14 => Option.bind (law11_PlaceLong_l1 k r14 k 0) fun o25 => Ex.elim o25 (fun v28 => Option.bind (law11_told k ) fun r34 => cond r34 (cond (decide ((r14.length : Int) = (if 0 > (wr ((wr ((wr (1 + (wr ((IntKind.u64.wrap a0).tmod 40)))) - (wr (1 + (wr ((IntKind.u64.wrap a1).tmod 8)))))) + 1)) then 0 else (wr ((wr ((wr (1 + (wr ((IntKind.u64.wrap a0).tmod 40)))) - (wr (1 + (wr ((IntKind.u64.wrap a1).tmod 8)))))) + 1))))) (Option.bind (place_All k (Venue.mk o7 10 0 [] []) (Party.mk 2 1)) fun r38 => cond (decide ((r38.length : Int) = 0)) (Option.bind (law3_Few k (Venue.mk o7 10 0 [] [])) fun r41 => some r41) (some false)) (some false)) (some false)) (fun rr => some rr)
def ref6_NewHall (k : Nat) (a0 : Venue) : Option ((Option Ref6Hall)) :=
  Option.bind (ref2_May k a0) fun r1 => cond (!r1) (some none) (Option.bind (ref6_Usable k a0) fun r6 => some (some (Ref6Hall.mk a0 r6)))
def ref6_MayParty (k : Nat) (a0 : Party) : Option (Bool) :=
  cond (decide (1 ≤ a0.Size)) (cond (decide (a0.Size ≤ 8)) (cond (decide (0 ≤ a0.Wheels)) (cond (decide (a0.Wheels ≤ 2)) (some (decide (a0.Wheels ≤ (wr (a0.Size - a0.Wheels))))) (some false)) (some false)) (some false)) (some false)
def ref6_Hall_kind (k : Nat) (a0 : Ref6Hall) (a1 : Int) (a2 : Int) (a3 : Int) : Option (Int) :=
  cond (decide (a1 < a2)) (some (-1)) (cond (decide (a3 < a1)) (some (-1)) (Option.bind (idx a0.V.Seats a1) fun y3 => some y3.Kind))
def ref6_Hall_May_l0 (k : Nat) (a0 : Ref6Hall) (a1 : Party) (a2 : Int) : Nat → Int → Int → Int → Option (Ex (Int × Int) (Bool))
  | 0, _, _, _ => none
  | n + 1, v49, v50, v51 => cond (decide (v51 ≤ (wr ((wr (a2 + a1.Size)) - 1)))) (Option.bind (idx a0.V.Seats v51) fun y53 => cond (decide (y53.Kind = 1)) (Option.bind (ref6_Hall_kind k a0 (wr (v51 - 1)) a2 (wr ((wr (a2 + a1.Size)) - 1))) fun r56 => cond (!decide (r56 = 2)) (Option.bind (ref6_Hall_kind k a0 (wr (v51 + 1)) a2 (wr ((wr (a2 + a1.Size)) - 1))) fun r59 => cond (!decide (r59 = 2)) (some (Ex.rt false)) (ref6_Hall_May_l0 k a0 a1 a2 n (wr (v49 + 1)) v50 (wr (v51 + 1)))) (ref6_Hall_May_l0 k a0 a1 a2 n (wr (v49 + 1)) v50 (wr (v51 + 1)))) (cond (decide (y53.Kind = 2)) (ref6_Hall_May_l0 k a0 a1 a2 n v49 (wr (v50 + 1)) (wr (v51 + 1))) (ref6_Hall_May_l0 k a0 a1 a2 n v49 v50 (wr (v51 + 1))))) (some (Ex.go (v49, v50)))
def ref6_Hall_May (k : Nat) (a0 : Ref6Hall) (a1 : Party) (a2 : Int) : Option (Bool) :=
  Option.bind (Option.bind (ref6_MayParty k a1) fun r14 => cond (!r14) (some true) (Option.bind (ref6_long k a0.V a0.U a2) fun r17 => some (decide (r17 < a1.Size)))) fun o6 => cond o6 (some false) (Option.bind (ref6_Hall_May_l0 k a0 a1 a2 k 0 0 a2) fun o45 => Ex.elim o45 (fun v48 => cond (decide (v48.1 = a1.Wheels)) (cond (decide (0 < v48.1)) (some true) (some (decide (v48.2 = 0)))) (some false)) (fun rr => some rr))
def ref6_MayPlace (k : Nat) (a0 : Venue) (a1 : Party) (a2 : Int) : Option (Bool) :=
  Option.bind (ref6_NewHall k a0) fun r1 => optc r1 (some false) (fun r3 => Option.bind (ref6_Hall_May k r3 a1 a2) fun r4 => some r4)
def ref6_Hall_Apart_l3 (k : Nat) (a0 : Ref6Hall) (a3 : Party) (a4 : Int) (v64 : Int) : Nat → Int → Option (Ex (Unit) (Bool))
  | 0, _ => none
  | n + 1, v81 => cond (decide (v81 < (wr (a4 + a3.Size)))) (cond (decide (v64 = v81)) (some (Ex.rt false)) (Option.bind (ref6_clash k a0.V v64 v81) fun r84 => cond r84 (some (Ex.rt false)) (ref6_Hall_Apart_l3 k a0 a3 a4 v64 n (wr (v81 + 1))))) (some (Ex.go ()))
def ref6_Hall_Apart_l2 (k : Nat) (a0 : Ref6Hall) (a1 : Party) (a2 : Int) (a3 : Party) (a4 : Int) : Nat → Int → Option (Ex (Unit) (Bool))
  | 0, _ => none
  | n + 1, v64 => cond (decide (v64 < (wr (a2 + a1.Size)))) (Option.bind (ref6_Hall_Apart_l3 k a0 a3 a4 v64 k a4) fun o77 => Ex.elim o77 (fun v80 => ref6_Hall_Apart_l2 k a0 a1 a2 a3 a4 n (wr (v64 + 1))) (fun rr => some (Ex.rt rr))) (some (Ex.go ()))
def ref6_Hall_Apart (k : Nat) (a0 : Ref6Hall) (a1 : Party) (a2 : Int) (a3 : Party) (a4 : Int) : Option (Bool) :=
  Option.bind (Option.bind (ref6_Hall_May k a0 a1 a2) fun r9 => cond (!r9) (some true) (Option.bind (ref6_Hall_May k a0 a3 a4) fun r12 => some (!r12))) fun o6 => cond o6 (some false) (Option.bind (ref6_Hall_Apart_l2 k a0 a1 a2 a3 a4 k a2) fun o60 => Ex.elim o60 (fun v63 => some true) (fun rr => some rr))
def ref6_Apart (k : Nat) (a0 : Venue) (a1 : Party) (a2 : Int) (a3 : Party) (a4 : Int) : Option (Bool) :=
  Option.bind (ref6_NewHall k a0) fun r1 => optc r1 (some false) (fun r3 => Option.bind (ref6_Hall_Apart k r3 a1 a2 a3 a4) fun r4 => some r4)
def ref6_Hall_All_l0 (k : Nat) (a0 : Ref6Hall) (a1 : Party) : Nat → (List Int) → Int → Option ((List Int))
  | 0, _, _ => none
  | n + 1, v16, v17 => cond (decide (v17 < (a0.V.Seats.length : Int))) (Option.bind (ref6_Hall_May k a0 a1 v17) fun r19 => cond r19 (gd (decide (v16.length + ([v17]).length ≤ 4294967296)) (ref6_Hall_All_l0 k a0 a1 n (v16 ++ [v17]) (wr (v17 + 1)))) (ref6_Hall_All_l0 k a0 a1 n v16 (wr (v17 + 1)))) (some v16)
def ref6_Hall_All (k : Nat) (a0 : Ref6Hall) (a1 : Party) : Option ((List Int)) :=
  Option.bind (ref6_Hall_All_l0 k a0 a1 k [] 0) fun o13 => some o13
def ref6_AllPlaces (k : Nat) (a0 : Venue) (a1 : Party) : Option ((List Int)) :=
  Option.bind (ref6_NewHall k a0) fun r1 => optc r1 (some []) (fun r3 => Option.bind (ref6_Hall_All k r3 a1) fun r4 => some r4)
def law11_PlaceAsks_l3 (k : Nat) (r197 : (List Int) × Bool) (v191 : Int) : Nat → Int → Option (Ex (Unit) (Bool))
  | 0, _ => none
  | n + 1, v300 => cond (decide (v300 < (r197.1.length : Int))) (Option.bind (idx r197.1 v300) fun y302 => cond (!decide (y302 = (wr (v191 + v300)))) (some (Ex.rt false)) (law11_PlaceAsks_l3 k r197 v191 n (wr (v300 + 1)))) (some (Ex.go ()))
def law11_PlaceAsks_l2 (k : Nat) (a0 : Venue) (a1 : Party) (a2 : Party) : Nat → Int → Int → Int → Option (Ex (Unit) (Bool))
  | 0, _, _, _ => none
  | n + 1, v191, v192, v193 => cond (decide (v193 < 2)) (Option.bind (ref6_MayPlace k a0 a1 v191) fun r195 => Option.bind (place_Seats k a0 a1 v191) fun r197 => Option.bind (Option.bind (place_May k a0 a1 v191) fun r258 => cond (!(r258 == r195)) (some true) (cond (!(r197.2 == r195)) (some true) (cond (!r197.2) (cond (!decide ((r197.1.length : Int) = 0)) (some true) (Option.bind (place_Apart k a0 a1 v191 a2 v192) fun r264 => Option.bind (ref6_Apart k a0 a1 v191 a2 v192) fun r266 => cond (!(r264 == r266)) (some true) (Option.bind (place_All k a0 a1) fun r269 => Option.bind (ref6_AllPlaces k a0 a1) fun r271 => Option.bind (ref6_SameInts k r269 r271) fun r273 => some (!r273)))) (Option.bind (place_Apart k a0 a1 v191 a2 v192) fun r275 => Option.bind (ref6_Apart k a0 a1 v191 a2 v192) fun r277 => cond (!(r275 == r277)) (some true) (Option.bind (place_All k a0 a1) fun r280 => Option.bind (ref6_AllPlaces k a0 a1) fun r282 => Option.bind (ref6_SameInts k r280 r282) fun r284 => some (!r284)))))) fun o227 => cond o227 (some (Ex.rt false)) (Option.bind (law11_PlaceAsks_l3 k r197 v191 k 0) fun o296 => Ex.elim o296 (fun v299 => cond r197.2 (cond (!decide ((r197.1.length : Int) = a1.Size)) (some (Ex.rt false)) (gd (decide ((IntKind.u64.wrap (wr ((a0.Seats.length : Int) + 1))) ≠ 0)) (gd (decide ((IntKind.u64.wrap (wr ((a0.Seats.length : Int) + 1))) ≠ 0)) (law11_PlaceAsks_l2 k a0 a1 a2 n (wr ((IntKind.u64.wrap v191).tmod (IntKind.u64.wrap (wr ((a0.Seats.length : Int) + 1))))) (wr ((IntKind.u64.wrap v192).tmod (IntKind.u64.wrap (wr ((a0.Seats.length : Int) + 1))))) (wr (v193 + 1)))))) (gd (decide ((IntKind.u64.wrap (wr ((a0.Seats.length : Int) + 1))) ≠ 0)) (gd (decide ((IntKind.u64.wrap (wr ((a0.Seats.length : Int) + 1))) ≠ 0)) (law11_PlaceAsks_l2 k a0 a1 a2 n (wr ((IntKind.u64.wrap v191).tmod (IntKind.u64.wrap (wr ((a0.Seats.length : Int) + 1))))) (wr ((IntKind.u64.wrap v192).tmod (IntKind.u64.wrap (wr ((a0.Seats.length : Int) + 1))))) (wr (v193 + 1)))))) (fun rr => some (Ex.rt rr)))) (some (Ex.go ()))
def law11_PlaceAsks (k : Nat) (a0 : Venue) (a1 : Party) (a2 : Party) (a3 : Int) (a4 : Int) : Option (Bool) :=
  Option.bind (law3_Few k a0) fun r1 => cond (!r1) (Option.bind (law11_told k ) fun r4 => some r4) (Option.bind (law11_PlaceAsks_l2 k a0 a1 a2 k a3 a4 0) fun o187 => Ex.elim o187 (fun v190 => Option.bind (law11_told k ) fun r315 => some r315) (fun rr => some rr))
def law11_PlaceApart_l3 (k : Nat) (r1 : Venue) (r7 : (List Int) × Bool) (r9 : (List Int) × Bool) (v116 : Int) : Nat → Bool → Int → Option (Bool)
  | 0, _, _ => none
  | n + 1, v149, v150 => cond (decide (v150 < (r9.1.length : Int))) (cond v149 (Option.bind (idx r7.1 v116) fun y165 => Option.bind (idx r9.1 v150) fun y167 => cond (!decide (y165 = y167)) (Option.bind (idx r7.1 v116) fun y170 => Option.bind (idx r9.1 v150) fun y172 => Option.bind (ref6_Clash k r1 y170 y172) fun r174 => law11_PlaceApart_l3 k r1 r7 r9 v116 n (!r174) (wr (v150 + 1))) (law11_PlaceApart_l3 k r1 r7 r9 v116 n false (wr (v150 + 1)))) (law11_PlaceApart_l3 k r1 r7 r9 v116 n false (wr (v150 + 1)))) (some v149)
def law11_PlaceApart_l2 (k : Nat) (r1 : Venue) (r7 : (List Int) × Bool) (r9 : (List Int) × Bool) : Nat → Bool → Int → Option (Bool)
  | 0, _, _ => none
  | n + 1, v115, v116 => cond (decide (v116 < (r7.1.length : Int))) (Option.bind (law11_PlaceApart_l3 k r1 r7 r9 v116 k v115 0) fun o146 => law11_PlaceApart_l2 k r1 r7 r9 n o146 (wr (v116 + 1))) (some v115)
def law11_PlaceApart (k : Nat) (a0 : (List Int)) (a1 : Party) (a2 : Party) (a3 : Int) (a4 : Int) : Option (Bool) :=
  Option.bind (law3_Make k a0 25) fun r1 => gd (decide ((IntKind.u64.wrap (r1.Seats.length : Int)) ≠ 0)) (gd (decide ((IntKind.u64.wrap (r1.Seats.length : Int)) ≠ 0)) (Option.bind (place_Seats k r1 a1 (wr ((IntKind.u64.wrap a3).tmod (IntKind.u64.wrap (r1.Seats.length : Int))))) fun r7 => Option.bind (place_Seats k r1 a2 (wr ((IntKind.u64.wrap a4).tmod (IntKind.u64.wrap (r1.Seats.length : Int))))) fun r9 => Option.bind (cond r7.2 (some r9.2) (some false)) fun o12 => Option.bind (law11_PlaceApart_l2 k r1 r7 r9 k o12 0) fun o112 => Option.bind (law11_told k ) fun r176 => cond r176 (Option.bind (place_Apart k r1 a1 (wr ((IntKind.u64.wrap a3).tmod (IntKind.u64.wrap (r1.Seats.length : Int)))) a2 (wr ((IntKind.u64.wrap a4).tmod (IntKind.u64.wrap (r1.Seats.length : Int))))) fun r179 => cond (r179 == o112) (Option.bind (place_Apart k r1 a2 (wr ((IntKind.u64.wrap a4).tmod (IntKind.u64.wrap (r1.Seats.length : Int)))) a1 (wr ((IntKind.u64.wrap a3).tmod (IntKind.u64.wrap (r1.Seats.length : Int))))) fun r182 => some (r182 == o112)) (some false)) (some false)))
def ref6_Rising_l3 (k : Nat) (a0 : (List Int)) (v68 : (List Int)) (v69 : Int) : Nat → Int → Option (Int)
  | 0, _ => none
  | n + 1, v87 => cond (decide (0 < v87)) (Option.bind (idx v68 (wr (v87 - 1))) fun y94 => Option.bind (idx a0 v69) fun y96 => cond (decide (y96 < y94)) (ref6_Rising_l3 k a0 v68 v69 n (wr (v87 - 1))) (some v87)) (some v87)
def ref6_Rising_l2 (k : Nat) (a0 : (List Int)) : Nat → (List Int) → Int → Option ((List Int))
  | 0, _, _ => none
  | n + 1, v68, v69 => cond (decide (v69 < (a0.length : Int))) (Option.bind (ref6_Rising_l3 k a0 v68 v69 k (v68.length : Int)) fun o84 => cond (decide (0 < o84)) (Option.bind (idx v68 (wr (o84 - 1))) fun y105 => Option.bind (idx a0 v69) fun y107 => cond (decide (y105 = y107)) (ref6_Rising_l2 k a0 n v68 (wr (v69 + 1))) (gd (decide ((0 : Int) ≤ o84 ∧ o84 ≤ (v68.length : Int))) (gd (decide ((([] : List Int)).length + ((v68).take o84.toNat).length ≤ 4294967296)) (Option.bind (idx a0 v69) fun y119 => gd (decide ((([] : List Int) ++ ((v68).take o84.toNat)).length + ([y119]).length ≤ 4294967296)) (gd (decide ((0 : Int) ≤ o84 ∧ o84 ≤ (v68.length : Int) ∧ (v68.length : Int) ≤ (v68.length : Int))) (gd (decide (((([] : List Int) ++ ((v68).take o84.toNat)) ++ [y119]).length + (((v68).drop o84.toNat).take ((v68.length : Int).toNat - o84.toNat)).length ≤ 4294967296)) (ref6_Rising_l2 k a0 n (((([] : List Int) ++ ((v68).take o84.toNat)) ++ [y119]) ++ (((v68).drop o84.toNat).take ((v68.length : Int).toNat - o84.toNat))) (wr (v69 + 1))))))))) (gd (decide ((0 : Int) ≤ o84 ∧ o84 ≤ (v68.length : Int))) (gd (decide ((([] : List Int)).length + ((v68).take o84.toNat).length ≤ 4294967296)) (Option.bind (idx a0 v69) fun y133 => gd (decide ((([] : List Int) ++ ((v68).take o84.toNat)).length + ([y133]).length ≤ 4294967296)) (gd (decide ((0 : Int) ≤ o84 ∧ o84 ≤ (v68.length : Int) ∧ (v68.length : Int) ≤ (v68.length : Int))) (gd (decide (((([] : List Int) ++ ((v68).take o84.toNat)) ++ [y133]).length + (((v68).drop o84.toNat).take ((v68.length : Int).toNat - o84.toNat)).length ≤ 4294967296)) (ref6_Rising_l2 k a0 n (((([] : List Int) ++ ((v68).take o84.toNat)) ++ [y133]) ++ (((v68).drop o84.toNat).take ((v68.length : Int).toNat - o84.toNat))) (wr (v69 + 1))))))))) (some v68)
def ref6_Rising (k : Nat) (a0 : (List Int)) : Option ((List Int)) :=
  Option.bind (ref6_Rising_l2 k a0 k [] 0) fun o65 => some o65
def law11_PlaceKilled_l0 (k : Nat) (a1 : Party) (a2 : Int) (r1 : Venue) (r12 : (List Int)) (r14 : (List Int)) : Nat → Int → Int → Option (Ex (Int) (Bool))
  | 0, _, _ => none
  | n + 1, v74, v75 => cond (decide (v75 < (r12.length : Int))) (Option.bind (cond (decide (v74 < (r14.length : Int))) (Option.bind (idx r14 v74) fun y91 => Option.bind (idx r12 v75) fun y93 => some (decide (y91 = y93))) (some false)) fun o82 => Option.bind (cond o82 (some (wr (v74 + 1))) (some v74)) fun o96 => Option.bind (idx r12 v75) fun y105 => cond (decide (y105 ≤ (wr ((IntKind.u64.wrap a2).tmod (IntKind.u64.wrap (r1.Seats.length : Int)))))) (Option.bind (idx r12 v75) fun y108 => cond (o82 == (decide ((wr ((IntKind.u64.wrap a2).tmod (IntKind.u64.wrap (r1.Seats.length : Int)))) < (wr (y108 + a1.Size))))) (some (Ex.rt false)) (law11_PlaceKilled_l0 k a1 a2 r1 r12 r14 n o96 (wr (v75 + 1)))) (cond (o82 == false) (some (Ex.rt false)) (law11_PlaceKilled_l0 k a1 a2 r1 r12 r14 n o96 (wr (v75 + 1))))) (some (Ex.go v74))
def law11_PlaceKilled (k : Nat) (a0 : (List Int)) (a1 : Party) (a2 : Int) : Option (Bool) :=
  Option.bind (law3_Make k a0 25) fun r1 => gd (decide ((IntKind.u64.wrap (r1.Seats.length : Int)) ≠ 0)) (gd (decide ((([] : List Int)).length + r1.Kills.length ≤ 4294967296)) (gd (decide ((([] : List Int) ++ r1.Kills).length + ([wr ((IntKind.u64.wrap a2).tmod (IntKind.u64.wrap (r1.Seats.length : Int)))]).length ≤ 4294967296)) (Option.bind (ref6_Rising k ((([] : List Int) ++ r1.Kills) ++ [wr ((IntKind.u64.wrap a2).tmod (IntKind.u64.wrap (r1.Seats.length : Int)))])) fun r6 => Option.bind (place_All k r1 a1) fun r12 => Option.bind (place_All k (Venue.mk r1.Seats r1.Gap r1.Radius r6 r1.Poles) a1) fun r14 => Option.bind (law11_PlaceKilled_l0 k a1 a2 r1 r12 r14 k 0 0) fun o70 => Ex.elim o70 (fun v73 => Option.bind (law11_told k ) fun r112 => cond r112 (some (decide (v73 = (r14.length : Int)))) (some false)) (fun rr => some rr))))
def law11_PlaceRadius (k : Nat) (a0 : (List Int)) (a1 : Party) (a2 : Party) (a3 : Int) (a4 : Int) (a5 : Int) : Option (Bool) :=
  Option.bind (law3_Make k a0 20) fun r1 => gd (decide ((IntKind.u64.wrap (r1.Seats.length : Int)) ≠ 0)) (gd (decide ((IntKind.u64.wrap (r1.Seats.length : Int)) ≠ 0)) (Option.bind (place_Apart k (Venue.mk r1.Seats r1.Gap 0 r1.Kills r1.Poles) a1 (wr ((IntKind.u64.wrap a3).tmod (IntKind.u64.wrap (r1.Seats.length : Int)))) a2 (wr ((IntKind.u64.wrap a4).tmod (IntKind.u64.wrap (r1.Seats.length : Int))))) fun r7 => Option.bind (Option.bind (place_May k (Venue.mk r1.Seats r1.Gap 0 r1.Kills r1.Poles) a1 (wr ((IntKind.u64.wrap a3).tmod (IntKind.u64.wrap (r1.Seats.length : Int))))) fun r19 => cond r19 (Option.bind (place_May k (Venue.mk r1.Seats r1.Gap 0 r1.Kills r1.Poles) a2 (wr ((IntKind.u64.wrap a4).tmod (IntKind.u64.wrap (r1.Seats.length : Int))))) fun r22 => cond r22 (cond (decide ((wr ((wr ((IntKind.u64.wrap a3).tmod (IntKind.u64.wrap (r1.Seats.length : Int)))) + a1.Size)) ≤ (wr ((IntKind.u64.wrap a4).tmod (IntKind.u64.wrap (r1.Seats.length : Int)))))) (some true) (some (decide ((wr ((wr ((IntKind.u64.wrap a4).tmod (IntKind.u64.wrap (r1.Seats.length : Int)))) + a2.Size)) ≤ (wr ((IntKind.u64.wrap a3).tmod (IntKind.u64.wrap (r1.Seats.length : Int)))))))) (some false)) (some false)) fun o16 => Option.bind (law11_told k ) fun r26 => cond r26 (cond (r7 == o16) (Option.bind (place_Apart k (Venue.mk r1.Seats r1.Gap (wr ((IntKind.u64.wrap a5).tmod 60)) r1.Kills r1.Poles) a1 (wr ((IntKind.u64.wrap a3).tmod (IntKind.u64.wrap (r1.Seats.length : Int)))) a2 (wr ((IntKind.u64.wrap a4).tmod (IntKind.u64.wrap (r1.Seats.length : Int))))) fun r30 => cond (!r30) (some true) (some r7)) (some false)) (some false)))
def law12_Small_l0 (k : Nat) (a1 : (List Int)) : Nat → (List Party) → Int → Option ((List Party))
  | 0, _, _ => none
  | n + 1, v46, v47 => cond (decide (v47 < (a1.length : Int))) (cond (decide (v47 < 4)) (Option.bind (idx a1 v47) fun y50 => Option.bind (cond (decide (((IntKind.u64.wrap ((IntKind.u64.wrap y50).tdiv 3)).tmod 4) = 0)) (some (decide (1 < (wr (1 + (wr ((IntKind.u64.wrap y50).tmod 3))))))) (some false)) fun o53 => cond o53 (gd (decide (v46.length + ([Party.mk (wr (1 + (wr ((IntKind.u64.wrap y50).tmod 3)))) 1]).length ≤ 4294967296)) (law12_Small_l0 k a1 n (v46 ++ [Party.mk (wr (1 + (wr ((IntKind.u64.wrap y50).tmod 3)))) 1]) (wr (v47 + 1)))) (gd (decide (v46.length + ([Party.mk (wr (1 + (wr ((IntKind.u64.wrap y50).tmod 3)))) 0]).length ≤ 4294967296)) (law12_Small_l0 k a1 n (v46 ++ [Party.mk (wr (1 + (wr ((IntKind.u64.wrap y50).tmod 3)))) 0]) (wr (v47 + 1))))) (some v46)) (some v46)
def law12_Small (k : Nat) (a0 : (List Int)) (a1 : (List Int)) : Option (Venue × (List Party)) :=
  Option.bind (law3_Make k a0 9) fun r1 => Option.bind (cond (decide (0 < (a1.length : Int))) (Option.bind (idx a1 0) fun y10 => some (!decide ((y10.tmod 3) = 0))) (some false)) fun o6 => Option.bind (cond o6 (some (r1.Radius.tmod 12)) (some r1.Radius)) fun o13 => Option.bind (law12_Small_l0 k a1 k [] 0) fun o43 => some (Venue.mk r1.Seats r1.Gap o13 r1.Kills r1.Poles, o43)
def ref6_AllParties_l0 (k : Nat) (a0 : (List Party)) : Nat → Int → Option (Ex (Unit) (Bool))
  | 0, _ => none
  | n + 1, v18 => cond (decide (v18 < (a0.length : Int))) (Option.bind (idx a0 v18) fun y20 => Option.bind (ref6_MayParty k y20) fun r22 => cond (!r22) (some (Ex.rt false)) (ref6_AllParties_l0 k a0 n (wr (v18 + 1)))) (some (Ex.go ()))
def ref6_AllParties (k : Nat) (a0 : (List Party)) : Option (Bool) :=
  Option.bind (ref6_AllParties_l0 k a0 k 0) fun o14 => Ex.elim o14 (fun v17 => some (decide ((a0.length : Int) ≤ 512))) (fun rr => some rr)
def ref6_Hall_Pins_l3 (k : Nat) (a0 : Ref6Hall) (a1 : (List Party)) (a2 : (List Pin)) (v188 : Int) (y190 : Pin) : Nat → Int → Option (Ex (Unit) (Bool))
  | 0, _ => none
  | n + 1, v283 => cond (decide (v283 < v188)) (Option.bind (idx a1 y190.Party) fun y297 => Option.bind (idx a2 v188) fun y299 => Option.bind (idx a2 v283) fun y301 => Option.bind (idx a1 y301.Party) fun y303 => Option.bind (idx a2 v283) fun y305 => Option.bind (ref6_Hall_Apart k a0 y297 y299.First y303 y305.First) fun r307 => cond (!r307) (some (Ex.rt false)) (ref6_Hall_Pins_l3 k a0 a1 a2 v188 y190 n (wr (v283 + 1)))) (some (Ex.go ()))
def ref6_Hall_Pins_l2 (k : Nat) (a0 : Ref6Hall) (a1 : (List Party)) (a2 : (List Pin)) : Nat → Int → Option (Ex (Unit) (Bool))
  | 0, _ => none
  | n + 1, v188 => cond (decide (v188 < (a2.length : Int))) (Option.bind (idx a2 v188) fun y190 => Option.bind (cond (decide (y190.Party < 0)) (some true) (cond (decide ((a1.length : Int) ≤ y190.Party)) (some true) (cond (decide (0 < v188)) (Option.bind (idx a2 (wr (v188 - 1))) fun y234 => cond (decide (y190.Party ≤ y234.Party)) (some true) (Option.bind (idx a1 y190.Party) fun y237 => Option.bind (idx a2 v188) fun y239 => Option.bind (ref6_Hall_May k a0 y237 y239.First) fun r241 => some (!r241))) (Option.bind (idx a1 y190.Party) fun y243 => Option.bind (idx a2 v188) fun y245 => Option.bind (ref6_Hall_May k a0 y243 y245.First) fun r247 => some (!r247))))) fun o210 => cond o210 (some (Ex.rt false)) (Option.bind (ref6_Hall_Pins_l3 k a0 a1 a2 v188 y190 k 0) fun o279 => Ex.elim o279 (fun v282 => ref6_Hall_Pins_l2 k a0 a1 a2 n (wr (v188 + 1))) (fun rr => some (Ex.rt rr)))) (some (Ex.go ()))
def ref6_Hall_Pins (k : Nat) (a0 : Ref6Hall) (a1 : (List Party)) (a2 : (List Pin)) : Option (Bool) :=
  Option.bind (ref6_Hall_Pins_l2 k a0 a1 a2 k 0) fun o184 => Ex.elim o184 (fun v187 => Option.bind (ref6_AllParties k a1) fun r310 => some r310) (fun rr => some rr)
def ref6_MayPins (k : Nat) (a0 : Venue) (a1 : (List Party)) (a2 : (List Pin)) : Option (Bool) :=
  Option.bind (ref6_NewHall k a0) fun r1 => optc r1 (some false) (fun r3 => Option.bind (ref6_Hall_Pins k r3 a1 a2) fun r4 => some r4)
def law12_Pins_l0 (k : Nat) (a0 : Venue) (a1 : (List Party)) : Nat → (List Pin) → Int → Int → Option ((List Pin))
  | 0, _, _, _ => none
  | n + 1, v37, v38, v39 => cond (decide (v39 < (a1.length : Int))) (Option.bind (idx a1 v39) fun y45 => Option.bind (ref6_AllPlaces k a0 y45) fun r47 => cond (!decide ((v38.tmod 3) = 0)) (law12_Pins_l0 k a0 a1 n v37 (IntKind.u64.wrap (v38.tdiv 3)) (wr (v39 + 1))) (cond (decide ((r47.length : Int) = 0)) (law12_Pins_l0 k a0 a1 n v37 (IntKind.u64.wrap (v38.tdiv 3)) (wr (v39 + 1))) (gd (decide ((([] : List Pin)).length + v37.length ≤ 4294967296)) (gd (decide ((IntKind.u64.wrap (r47.length : Int)) ≠ 0)) (Option.bind (idx r47 ((IntKind.u64.wrap (v38.tdiv 3)).tmod (IntKind.u64.wrap (r47.length : Int)))) fun y58 => gd (decide ((([] : List Pin) ++ v37).length + ([Pin.mk v39 y58]).length ≤ 4294967296)) (Option.bind (ref6_MayPins k a0 a1 ((([] : List Pin) ++ v37) ++ [Pin.mk v39 y58])) fun r61 => cond r61 (law12_Pins_l0 k a0 a1 n ((([] : List Pin) ++ v37) ++ [Pin.mk v39 y58]) (IntKind.u64.wrap ((IntKind.u64.wrap (v38.tdiv 3)).tdiv 5)) (wr (v39 + 1))) (law12_Pins_l0 k a0 a1 n v37 (IntKind.u64.wrap ((IntKind.u64.wrap (v38.tdiv 3)).tdiv 5)) (wr (v39 + 1))))))))) (some v37)
def law12_Pins (k : Nat) (a0 : Venue) (a1 : (List Party)) (a2 : Int) : Option ((List Pin)) :=
  Option.bind (law12_Pins_l0 k a0 a1 k [] (IntKind.u64.wrap a2) 0) fun o34 => some o34
def ref6_pinned_l0 (k : Nat) (a0 : (List Pin)) (a1 : Int) : Nat → Int → Option (Ex (Unit) (Int × Bool))
  | 0, _ => none
  | n + 1, v18 => cond (decide (v18 < (a0.length : Int))) (Option.bind (idx a0 v18) fun y20 => cond (decide (y20.Party = a1)) (Option.bind (idx a0 v18) fun y23 => some (Ex.rt (y23.First, true))) (ref6_pinned_l0 k a0 a1 n (wr (v18 + 1)))) (some (Ex.go ()))
def ref6_pinned (k : Nat) (a0 : (List Pin)) (a1 : Int) : Option (Int × Bool) :=
  Option.bind (ref6_pinned_l0 k a0 a1 k 0) fun o14 => Ex.elim o14 (fun v17 => some ((-1), false)) (fun rr => some rr)
def ref6_Hall_wrong_l3 (k : Nat) (a0 : Ref6Hall) (a1 : (List Party)) (a2 : (List Int)) (v204 : Int) : Nat → Int → Option (Ex (Unit) (Int))
  | 0, _ => none
  | n + 1, v301 => cond (decide (v301 < v204)) (Option.bind (idx a2 v204) fun y319 => cond (!decide (y319 = (-1))) (Option.bind (idx a2 v301) fun y322 => cond (!decide (y322 = (-1))) (Option.bind (idx a1 v204) fun y325 => Option.bind (idx a2 v204) fun y327 => Option.bind (idx a1 v301) fun y329 => Option.bind (idx a2 v301) fun y331 => Option.bind (ref6_Hall_Apart k a0 y325 y327 y329 y331) fun r333 => cond (!r333) (some (Ex.rt v204)) (ref6_Hall_wrong_l3 k a0 a1 a2 v204 n (wr (v301 + 1)))) (ref6_Hall_wrong_l3 k a0 a1 a2 v204 n (wr (v301 + 1)))) (ref6_Hall_wrong_l3 k a0 a1 a2 v204 n (wr (v301 + 1)))) (some (Ex.go ()))
def ref6_Hall_wrong_l2 (k : Nat) (a0 : Ref6Hall) (a1 : (List Party)) (a2 : (List Int)) (a3 : (List Pin)) : Nat → Int → Option (Ex (Unit) (Int))
  | 0, _ => none
  | n + 1, v204 => cond (decide (v204 < (a2.length : Int))) (Option.bind (ref6_pinned k a3 v204) fun r206 => Option.bind (Option.bind (idx a2 v204) fun y243 => cond (!decide (y243 = (-1))) (Option.bind (idx a1 v204) fun y246 => Option.bind (idx a2 v204) fun y248 => Option.bind (ref6_Hall_May k a0 y246 y248) fun r250 => cond (!r250) (some true) (cond r206.2 (Option.bind (idx a2 v204) fun y254 => some (!decide (y254 = r206.1))) (some false))) (cond r206.2 (Option.bind (idx a2 v204) fun y257 => some (!decide (y257 = r206.1))) (some false))) fun o224 => cond o224 (some (Ex.rt v204)) (Option.bind (ref6_Hall_wrong_l3 k a0 a1 a2 v204 k 0) fun o297 => Ex.elim o297 (fun v300 => ref6_Hall_wrong_l2 k a0 a1 a2 a3 n (wr (v204 + 1))) (fun rr => some (Ex.rt rr)))) (some (Ex.go ()))
def ref6_Hall_wrong (k : Nat) (a0 : Ref6Hall) (a1 : (List Party)) (a2 : (List Int)) (a3 : (List Pin)) : Option (Int) :=
  Option.bind (ref6_Hall_wrong_l2 k a0 a1 a2 a3 k 0) fun o200 => Ex.elim o200 (fun v203 => some (-1)) (fun rr => some rr)
def ref6_Wrong (k : Nat) (a0 : Venue) (a1 : (List Party)) (a2 : (List Int)) (a3 : (List Pin)) : Option (Int) :=
  Option.bind (ref6_NewHall k a0) fun r1 => optc r1 (some (a1.length : Int)) (fun r3 => Option.bind (ref6_Hall_Pins k r3 a1 a3) fun r4 => cond (!r4) (some (a1.length : Int)) (cond (!decide ((a2.length : Int) = (a1.length : Int))) (some (a1.length : Int)) (Option.bind (ref6_Hall_wrong k r3 a1 a2 a3) fun r8 => some r8)))
def ref6_MayPlan (k : Nat) (a0 : Venue) (a1 : (List Party)) (a2 : (List Int)) (a3 : (List Pin)) : Option (Bool) :=
  Option.bind (ref6_Wrong k a0 a1 a2 a3) fun r1 => some (decide (r1 = (-1)))
def ref15_Plans_l12 (k : Nat) (r346 : (List Int)) (v253 : (List (List Int))) (v338 : Int) : Nat → (List (List Int)) → Int → Option ((List (List Int)))
  | 0, _, _ => none
  | n + 1, v371, v372 => cond (decide (v372 < (((([] : List Int) ++ r346) ++ [(-1)]).length : Int))) (Option.bind (idx v253 v338) fun y381 => gd (decide ((([] : List Int)).length + y381.length ≤ 4294967296)) (Option.bind (idx ((([] : List Int) ++ r346) ++ [(-1)]) v372) fun y384 => gd (decide ((([] : List Int) ++ y381).length + ([y384]).length ≤ 4294967296)) (gd (decide (v371.length + ([(([] : List Int) ++ y381) ++ [y384]]).length ≤ 4294967296)) (ref15_Plans_l12 k r346 v253 v338 n (v371 ++ [(([] : List Int) ++ y381) ++ [y384]]) (wr (v372 + 1)))))) (some v371)
def ref15_Plans_l11 (k : Nat) (a0 : Venue) (a1 : (List Party)) (v253 : (List (List Int))) (v254 : Int) : Nat → (List (List Int)) → Int → Option ((List (List Int)))
  | 0, _, _ => none
  | n + 1, v337, v338 => cond (decide (v338 < (v253.length : Int))) (Option.bind (idx a1 v254) fun y344 => Option.bind (ref6_AllPlaces k a0 y344) fun r346 => gd (decide ((([] : List Int)).length + r346.length ≤ 4294967296)) (gd (decide ((([] : List Int) ++ r346).length + ([(-1)]).length ≤ 4294967296)) (Option.bind (ref15_Plans_l12 k r346 v253 v338 k v337 0) fun o368 => ref15_Plans_l11 k a0 a1 v253 v254 n o368 (wr (v338 + 1))))) (some v337)
def ref15_Plans_l8 (k : Nat) (a0 : Venue) (a1 : (List Party)) : Nat → (List (List Int)) → Int → Option ((List (List Int)))
  | 0, _, _ => none
  | n + 1, v253, v254 => cond (decide (v254 < (a1.length : Int))) (Option.bind (ref15_Plans_l11 k a0 a1 v253 v254 k [] 0) fun o334 => ref15_Plans_l8 k a0 a1 n o334 (wr (v254 + 1))) (some v253)
def ref15_Plans_l13 (k : Nat) (a0 : Venue) (a1 : (List Party)) (a2 : (List Pin)) (o250 : ((List (List Int)))) : Nat → (List (List Int)) → Int → Option ((List (List Int)))
  | 0, _, _ => none
  | n + 1, v411, v412 => cond (decide (v412 < (o250.length : Int))) (Option.bind (idx o250 v412) fun y418 => Option.bind (ref6_MayPlan k a0 a1 y418 a2) fun r420 => cond r420 (Option.bind (idx o250 v412) fun y423 => gd (decide (v411.length + ([y423]).length ≤ 4294967296)) (ref15_Plans_l13 k a0 a1 a2 o250 n (v411 ++ [y423]) (wr (v412 + 1)))) (ref15_Plans_l13 k a0 a1 a2 o250 n v411 (wr (v412 + 1)))) (some v411)
def ref15_Plans (k : Nat) (a0 : Venue) (a1 : (List Party)) (a2 : (List Pin)) : Option ((List (List Int))) :=
  Option.bind (ref6_MayPins k a0 a1 a2) fun r1 => cond (!r1) (some []) (Option.bind (ref15_Plans_l8 k a0 a1 k [([] : List Int)] 0) fun o250 => Option.bind (ref15_Plans_l13 k a0 a1 a2 o250 k [] 0) fun o408 => some o408)
def slices_IndexFunc_Party_l0 (k : Nat) (a0 : (List Party)) (a1_F : (Party → Option Bool)) : Nat → Int → Option (Ex (Unit) (Int))
  | 0, _ => none
  | n + 1, v18 => cond (decide (v18 < (a0.length : Int))) (Option.bind (idx a0 v18) fun y20 => Option.bind (a1_F y20) fun r22 => cond r22 (some (Ex.rt v18)) (slices_IndexFunc_Party_l0 k a0 a1_F n (wr (v18 + 1)))) (some (Ex.go ()))
def slices_IndexFunc_Party (k : Nat) (a0 : (List Party)) (a1_F : Party → Option Bool) : Option (Int) :=
  Option.bind (slices_IndexFunc_Party_l0 k a0 a1_F k 0) fun o14 => Ex.elim o14 (fun v17 => some (-1)) (fun rr => some rr)
def slices_ContainsFunc_Party (k : Nat) (a0 : (List Party)) (a1_F : Party → Option Bool) : Option (Bool) :=
  Option.bind (slices_IndexFunc_Party k a0 a1_F) fun r1 => some (decide (0 ≤ r1))
def party_All_1 (k : Nat) (a0 : Party) : Option (Bool) :=
  Option.bind (party_May k a0) fun r1 => some (!r1)
def party_All (k : Nat) (a0 : (List Party)) : Option (Bool) :=
  cond (decide ((a0.length : Int) ≤ 512)) (Option.bind (slices_ContainsFunc_Party k a0 (fun p4 => party_All_1 k p4)) fun r2 => some (!r2)) (some false)
def plan_Seated_l0 (k : Nat) (a0 : (List Party)) (a1 : (List Int)) : Nat → Int → Int → Option (Int)
  | 0, _, _ => none
  | n + 1, v28, v29 => cond (decide (v29 < (a1.length : Int))) (Option.bind (idx a1 v29) fun y31 => cond (decide (0 ≤ y31)) (Option.bind (idx a0 v29) fun y34 => plan_Seated_l0 k a0 a1 n (wr (v28 + y34.Size)) (wr (v29 + 1))) (plan_Seated_l0 k a0 a1 n v28 (wr (v29 + 1)))) (some v28)
def plan_Seated (k : Nat) (a0 : (List Party)) (a1 : (List Int)) : Option (Int) :=
  Option.bind (cond (!decide ((a0.length : Int) = (a1.length : Int))) (some true) (Option.bind (party_All k a0) fun r8 => some (!r8))) fun o4 => cond o4 (some 0) (Option.bind (plan_Seated_l0 k a0 a1 k 0 0) fun o25 => some o25)
def plan_Full_l0 (k : Nat) (a1 : (List Int)) : Nat → Int → Option (Ex (Unit) (Bool))
  | 0, _ => none
  | n + 1, v14 => cond (decide (v14 < (a1.length : Int))) (Option.bind (idx a1 v14) fun y16 => cond (decide (y16 < 0)) (some (Ex.rt false)) (plan_Full_l0 k a1 n (wr (v14 + 1)))) (some (Ex.go ()))
def plan_Full (k : Nat) (a0 : (List Party)) (a1 : (List Int)) : Option (Bool) :=
  Option.bind (plan_Full_l0 k a1 k 0) fun o10 => Ex.elim o10 (fun v13 => some (decide ((a0.length : Int) = (a1.length : Int)))) (fun rr => some rr)
def law12_Few (k : Nat) (a0 : Venue) (a1 : (List Party)) (a2 : (List Pin)) : Option (Bool) :=
  Option.bind (law3_Few k a0) fun r1 => cond r1 (cond (decide ((a1.length : Int) ≤ 8)) (some (decide ((a2.length : Int) ≤ 8))) (some false)) (some false)
def slices_IndexFunc_int_l0 (k : Nat) (a0 : (List Int)) (a1_F : (Int → Option Bool)) : Nat → Int → Option (Ex (Unit) (Int))
  | 0, _ => none
  | n + 1, v18 => cond (decide (v18 < (a0.length : Int))) (Option.bind (idx a0 v18) fun y20 => Option.bind (a1_F y20) fun r22 => cond r22 (some (Ex.rt v18)) (slices_IndexFunc_int_l0 k a0 a1_F n (wr (v18 + 1)))) (some (Ex.go ()))
def slices_IndexFunc_int (k : Nat) (a0 : (List Int)) (a1_F : Int → Option Bool) : Option (Int) :=
  Option.bind (slices_IndexFunc_int_l0 k a0 a1_F k 0) fun o14 => Ex.elim o14 (fun v17 => some (-1)) (fun rr => some rr)
def slices_Clone_int (k : Nat) (a0 : (List Int)) : Option ((List Int)) :=
  gd (decide ((([] : List Int)).length + a0.length ≤ 4294967296)) (some (([] : List Int) ++ a0))
def ref6_among_l0 (k : Nat) (a0 : (List Pin)) (a1 : Int) : Nat → (List Pin) → Int → Option ((List Pin))
  | 0, _, _ => none
  | n + 1, v20, v21 => cond (decide (v21 < (a0.length : Int))) (Option.bind (idx a0 v21) fun y23 => cond (decide (y23.Party < a1)) (Option.bind (idx a0 v21) fun y26 => gd (decide (v20.length + ([y26]).length ≤ 4294967296)) (ref6_among_l0 k a0 a1 n (v20 ++ [y26]) (wr (v21 + 1)))) (ref6_among_l0 k a0 a1 n v20 (wr (v21 + 1)))) (some v20)
def ref6_among (k : Nat) (a0 : (List Pin)) (a1 : Int) : Option ((List Pin)) :=
  Option.bind (ref6_among_l0 k a0 a1 k [] 0) fun o17 => some o17
def ref6_MayState (k : Nat) (a0 : Venue) (a1 : (List Party)) (a2 : (List Pin)) (a3 : (List Int)) : Option (Bool) :=
  Option.bind (ref6_MayPins k a0 a1 a2) fun r11 => cond r11 (cond (decide ((a3.length : Int) ≤ (a1.length : Int))) (Option.bind (slc a1 0 (if (a1.length : Int) < (a3.length : Int) then (a1.length : Int) else (a3.length : Int))) fun y15 => Option.bind (ref6_among k a2 (a3.length : Int)) fun r17 => Option.bind (ref6_MayPlan k a0 y15 a3 r17) fun r19 => some r19) (some false)) (some false)
def ref6_Hall_free_l0 (k : Nat) (a0 : Ref6Hall) (a1 : (List Party)) (a2 : (List Int)) (a4 : Int) (a5 : Int) : Nat → Int → Option (Ex (Unit) (Bool))
  | 0, _ => none
  | n + 1, v32 => cond (decide (v32 < (a2.length : Int))) (Option.bind (idx a2 v32) fun y45 => cond (!decide (y45 = (-1))) (Option.bind (idx a1 a4) fun y48 => Option.bind (idx a1 v32) fun y50 => Option.bind (idx a2 v32) fun y52 => Option.bind (ref6_Hall_Apart k a0 y48 a5 y50 y52) fun r54 => cond (!r54) (some (Ex.rt false)) (ref6_Hall_free_l0 k a0 a1 a2 a4 a5 n (wr (v32 + 1)))) (ref6_Hall_free_l0 k a0 a1 a2 a4 a5 n (wr (v32 + 1)))) (some (Ex.go ()))
def ref6_Hall_free_l1 (k : Nat) (a0 : Ref6Hall) (a1 : (List Party)) (a3 : (List Pin)) (a4 : Int) (a5 : Int) : Nat → Int → Option (Ex (Unit) (Bool))
  | 0, _ => none
  | n + 1, v88 => cond (decide (v88 < (a3.length : Int))) (Option.bind (idx a3 v88) fun y90 => cond (!decide (y90.Party = a4)) (Option.bind (idx a1 a4) fun y102 => Option.bind (idx a1 y90.Party) fun y104 => Option.bind (idx a3 v88) fun y106 => Option.bind (ref6_Hall_Apart k a0 y102 a5 y104 y106.First) fun r108 => cond (!r108) (some (Ex.rt false)) (ref6_Hall_free_l1 k a0 a1 a3 a4 a5 n (wr (v88 + 1)))) (ref6_Hall_free_l1 k a0 a1 a3 a4 a5 n (wr (v88 + 1)))) (some (Ex.go ()))
def ref6_Hall_free (k : Nat) (a0 : Ref6Hall) (a1 : (List Party)) (a2 : (List Int)) (a3 : (List Pin)) (a4 : Int) (a5 : Int) : Option (Bool) :=
  Option.bind (ref6_Hall_free_l0 k a0 a1 a2 a4 a5 k 0) fun o28 => Ex.elim o28 (fun v31 => Option.bind (ref6_Hall_free_l1 k a0 a1 a3 a4 a5 k 0) fun o84 => Ex.elim o84 (fun v87 => some true) (fun rr => some rr)) (fun rr => some rr)
def ref6_Hall_Open_l0 (k : Nat) (a0 : Ref6Hall) (a1 : (List Party)) (a2 : (List Int)) (a3 : (List Pin)) (a4 : Int) (r3 : (List Int)) (r5 : Int × Bool) : Nat → (List Int) → Int → Option ((List Int))
  | 0, _, _ => none
  | n + 1, v60, v61 => cond (decide (v61 < (r3.length : Int))) (Option.bind (Option.bind (idx r3 v61) fun y74 => Option.bind (ref6_Hall_free k a0 a1 a2 a3 a4 y74) fun r76 => cond r76 (cond (!r5.2) (some true) (Option.bind (idx r3 v61) fun y80 => some (decide (y80 = r5.1)))) (some false)) fun o71 => cond o71 (Option.bind (idx r3 v61) fun y83 => gd (decide (v60.length + ([y83]).length ≤ 4294967296)) (ref6_Hall_Open_l0 k a0 a1 a2 a3 a4 r3 r5 n (v60 ++ [y83]) (wr (v61 + 1)))) (ref6_Hall_Open_l0 k a0 a1 a2 a3 a4 r3 r5 n v60 (wr (v61 + 1)))) (some v60)
def ref6_Hall_Open (k : Nat) (a0 : Ref6Hall) (a1 : (List Party)) (a2 : (List Int)) (a3 : (List Pin)) (a4 : Int) : Option ((List Int)) :=
  Option.bind (idx a1 a4) fun y1 => Option.bind (ref6_Hall_All k a0 y1) fun r3 => Option.bind (ref6_pinned k a3 a4) fun r5 => Option.bind (ref6_Hall_Open_l0 k a0 a1 a2 a3 a4 r3 r5 k [] 0) fun o57 => some o57
def ref6_Hall_Most_l0 (k : Nat) (a0 : Ref6Hall) (a1 : (List Party)) (a2 : (List Int)) (a3 : (List Pin)) : Nat → Int → Int → Option (Int)
  | 0, _, _ => none
  | n + 1, v60, v61 => cond (decide (v61 < (a1.length : Int))) (Option.bind (cond (decide (v61 < (a2.length : Int))) (Option.bind (idx a2 v61) fun y77 => cond (decide (0 ≤ y77)) (some true) (cond (decide ((a2.length : Int) ≤ v61)) (Option.bind (ref6_Hall_Open k a0 a1 a2 a3 v61) fun r81 => some (decide (0 < (r81.length : Int)))) (some false))) (cond (decide ((a2.length : Int) ≤ v61)) (Option.bind (ref6_Hall_Open k a0 a1 a2 a3 v61) fun r84 => some (decide (0 < (r84.length : Int)))) (some false))) fun o73 => cond o73 (Option.bind (idx a1 v61) fun y87 => ref6_Hall_Most_l0 k a0 a1 a2 a3 n (wr (v60 + y87.Size)) (wr (v61 + 1))) (ref6_Hall_Most_l0 k a0 a1 a2 a3 n v60 (wr (v61 + 1)))) (some v60)
def ref6_Hall_Most (k : Nat) (a0 : Ref6Hall) (a1 : (List Party)) (a2 : (List Int)) (a3 : (List Pin)) : Option (Int) :=
  Option.bind (ref6_Hall_Most_l0 k a0 a1 a2 a3 k 0 0) fun o57 => some o57
def ref6_Seated_l0 (k : Nat) (a0 : (List Party)) (a1 : (List Int)) : Nat → Int → Int → Option (Int)
  | 0, _, _ => none
  | n + 1, v28, v29 => cond (decide (v29 < (a1.length : Int))) (Option.bind (idx a1 v29) fun y31 => cond (decide (0 ≤ y31)) (Option.bind (idx a0 v29) fun y34 => ref6_Seated_l0 k a0 a1 n (wr (v28 + y34.Size)) (wr (v29 + 1))) (ref6_Seated_l0 k a0 a1 n v28 (wr (v29 + 1)))) (some v28)
def ref6_Seated (k : Nat) (a0 : (List Party)) (a1 : (List Int)) : Option (Int) :=
  Option.bind (cond (!decide ((a0.length : Int) = (a1.length : Int))) (some true) (Option.bind (ref6_AllParties k a0) fun r8 => some (!r8))) fun o4 => cond o4 (some 0) (Option.bind (ref6_Seated_l0 k a0 a1 k 0 0) fun o25 => some o25)
end Go.Px
