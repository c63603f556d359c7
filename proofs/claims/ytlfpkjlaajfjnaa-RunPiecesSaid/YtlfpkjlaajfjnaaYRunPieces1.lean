/- The Go functions come to just what their plain forms come to: one contract each. -/
import Derived.Test.YtlfpkjlaajfjnaaYRunPieces0
set_option linter.unusedVariables false
set_option linter.unusedSimpArgs false
set_option maxRecDepth 100000
namespace Go.Proofs.Ytlfpkjlaajfjnaa
open Go Go.Sh Go.Px
attribute [local irreducible] Go.Sh.T Go.Sh.RunT Go.Sh.RunD
set_option maxHeartbeats 4000000 in
theorem venue_Wrong_pc (al : Bool) (k : Nat) (a0 : Venue) (o : ByteArray) (H : venue_Wrong k a0 = some o) : PC Try.prog al 131 [.agg [.lst (List.map eSeat a0.Seats), .v (.int .i64 a0.Gap), .v (.int .i64 a0.Radius), .lst (List.map eI a0.Kills), .lst (List.map ePole a0.Poles)]] (.v (.string o)) := by
  unfold venue_Wrong at H
  refine PC.of_T Try.func131 rfl rfl (n := 31) rfl rfl (.inr rfl) ?_
  intro base B w0
  refine T.st (st' := ⟨[(0, .agg [.lst (List.map eSeat a0.Seats), .v (.int .i64 a0.Gap), .v (.int .i64 a0.Radius), .lst (List.map eI a0.Kills), .lst (List.map ePole a0.Poles)])], [], 0, []⟩) rfl ?_
  refine T.seq ?_
  refine T.region ?_
  refine RunT.ot1 (x := .ptr 0 0) (p0 := (0, some (.box [.lst (List.map eSeat a0.Seats), .v (.int .i64 a0.Gap), .v (.int .i64 a0.Radius), .lst (List.map eI a0.Kills), .lst (List.map ePole a0.Poles)]))) (n' := 8) rfl rfl rfl rfl (.boxX rfl rfl rfl) rfl ?_
  refine RunT.ot0 (x := .v (.string (⟨#[]⟩ : ByteArray))) rfl rfl rfl rfl (.assignX rfl) ?_
  refine RunT.nil ?_
  refine T.seq ?_
  refine T.block ?_
  refine T.seq ?_
  refine T.region ?_
  refine RunT.ot0 (x := .ptr 0 0) rfl rfl rfl rfl (.fieldPX fl26_0 rfl rfl) ?_
  refine RunT.ot0 (x := .lst (List.map eSeat a0.Seats)) rfl rfl rfl rfl (.loadP ty22 rfl rfl rfl) ?_
  obtain ⟨r1, h2, H⟩ := bs H
  refine RunT.ot0 (x := .v (.bool r1)) rfl rfl rfl rfl (.callp (venue_seats_pc false k a0.Seats r1 h2) rfl ⟨(.one .lst), trivial⟩ rfl rfl rfl) ?_
  refine RunT.ot0 (x := .v (.bool (!r1))) rfl rfl rfl rfl (.un rfl (fun w => u_not w) rfl) ?_
  refine RunT.ot0 (x := .v (.bool (!r1))) rfl rfl rfl rfl (.assignX rfl) ?_
  refine RunT.nil ?_
  refine T.cond2 (t := !r1) rfl (fun c3 => ?_) (fun c3 => ?_)
  · replace H := ct H c3
    refine T.seq ?_
    refine T.region ?_
    refine RunT.ot0 (x := .v (.string (⟨#[115, 101, 97, 116, 115]⟩ : ByteArray))) rfl rfl rfl rfl (.assignX rfl) ?_
    refine RunT.nil ?_
    obtain rfl := si H
    refine T.sub (sub_to (st' := ⟨[(2, .v (.string (⟨#[115, 101, 97, 116, 115]⟩ : ByteArray)))], [], 8, []⟩) [] (by decide) rfl rfl (⟨⟨_, rfl, .one .v⟩, trivial⟩) (trivial)) ?_
    refine T.ret ?_
    exact RetOk.same [.v (.string (⟨#[115, 101, 97, 116, 115]⟩ : ByteArray))] ⟨rfl, trivial⟩ rfl rfl rfl
  · replace H := cf H c3
    refine T.seq ?_
    refine T.region ?_
    refine RunT.ot0 (x := .ptr 0 1) rfl rfl rfl rfl (.fieldPX fl26_1 rfl rfl) ?_
    refine RunT.ot0 (x := .v (.int .i64 a0.Gap)) rfl rfl rfl rfl (.loadP ty3 rfl rfl rfl) ?_
    obtain ⟨r4, h5, H⟩ := bs H
    refine RunT.ot0 (x := .v (.bool r4)) rfl rfl rfl rfl (.callp (venue_Reach_pc false k a0.Gap r4 h5) rfl ⟨(.one .v), trivial⟩ rfl rfl rfl) ?_
    refine RunT.ot0 (x := .v (.bool (!r4))) rfl rfl rfl rfl (.un rfl (fun w => u_not w) rfl) ?_
    refine RunT.ot0 (x := .v (.bool (!r4))) rfl rfl rfl rfl (.assignX rfl) ?_
    refine RunT.nil ?_
    refine T.cond2 (t := !r4) rfl (fun c6 => ?_) (fun c6 => ?_)
    · replace H := ct H c6
      refine T.seq ?_
      refine T.region ?_
      refine RunT.ot0 (x := .v (.string (⟨#[103, 97, 112]⟩ : ByteArray))) rfl rfl rfl rfl (.assignX rfl) ?_
      refine RunT.nil ?_
      obtain rfl := si H
      refine T.sub (sub_to (st' := ⟨[(2, .v (.string (⟨#[103, 97, 112]⟩ : ByteArray)))], [], 8, []⟩) [] (by decide) rfl rfl (⟨⟨_, rfl, .one .v⟩, trivial⟩) (trivial)) ?_
      refine T.ret ?_
      exact RetOk.same [.v (.string (⟨#[103, 97, 112]⟩ : ByteArray))] ⟨rfl, trivial⟩ rfl rfl rfl
    · replace H := cf H c6
      refine T.seq ?_
      refine T.region ?_
      refine RunT.ot0 (x := .ptr 0 2) rfl rfl rfl rfl (.fieldPX fl26_2 rfl rfl) ?_
      refine RunT.ot0 (x := .v (.int .i64 a0.Radius)) rfl rfl rfl rfl (.loadP ty3 rfl rfl rfl) ?_
      obtain ⟨r7, h8, H⟩ := bs H
      refine RunT.ot0 (x := .v (.bool r7)) rfl rfl rfl rfl (.callp (venue_in_pc false k a0.Radius 0 1048576 r7 h8) rfl ⟨(.one .v), (.one .v), (.one .v), trivial⟩ rfl rfl rfl) ?_
      refine RunT.ot0 (x := .v (.bool (!r7))) rfl rfl rfl rfl (.un rfl (fun w => u_not w) rfl) ?_
      refine RunT.ot0 (x := .v (.bool (!r7))) rfl rfl rfl rfl (.assignX rfl) ?_
      refine RunT.nil ?_
      refine T.cond2 (t := !r7) rfl (fun c9 => ?_) (fun c9 => ?_)
      · replace H := ct H c9
        refine T.seq ?_
        refine T.sub (sub_pick [] [] (st' := ⟨[], [], 8, []⟩) rfl rfl rfl rfl rfl) ?_
        refine T.region ?_
        refine RunT.ot0 (x := .v (.string (⟨#[114, 97, 100, 105, 117, 115]⟩ : ByteArray))) rfl rfl rfl rfl (.assignX rfl) ?_
        refine RunT.nil ?_
        obtain rfl := si H
        refine T.sub (sub_to (st' := ⟨[(2, .v (.string (⟨#[114, 97, 100, 105, 117, 115]⟩ : ByteArray)))], [], 8, []⟩) [] (by decide) rfl rfl (⟨⟨_, rfl, .one .v⟩, trivial⟩) (trivial)) ?_
        refine T.ret ?_
        exact RetOk.same [.v (.string (⟨#[114, 97, 100, 105, 117, 115]⟩ : ByteArray))] ⟨rfl, trivial⟩ rfl rfl rfl
      · replace H := cf H c9
        refine T.seq ?_
        refine T.region ?_
        refine RunT.ot0 (x := .ptr 0 3) rfl rfl rfl rfl (.fieldPX fl26_3 rfl rfl) ?_
        refine RunT.ot0 (x := .lst (List.map eI a0.Kills)) rfl rfl rfl rfl (.loadP ty23 rfl rfl rfl) ?_
        refine RunT.ot0 (x := .ptr 0 0) rfl rfl rfl rfl (.fieldPX fl26_0 rfl rfl) ?_
        refine RunT.ot0 (x := .lst (List.map eSeat a0.Seats)) rfl rfl rfl rfl (.loadP ty22 rfl rfl rfl) ?_
        refine RunT.ot0 (x := .v (.int .i64 (a0.Seats.length : Int))) rfl rfl rfl rfl (.lenLm Try.underlying22 rfl rfl) ?_
        obtain ⟨r10, h11, H⟩ := bs H
        refine RunT.ot0 (x := .v (.bool r10)) rfl rfl rfl rfl (.callp (venue_kills_pc false k a0.Kills (a0.Seats.length : Int) r10 h11) rfl ⟨(.one .lst), (.one .v), trivial⟩ rfl rfl rfl) ?_
        refine RunT.ot0 (x := .v (.bool (!r10))) rfl rfl rfl rfl (.un rfl (fun w => u_not w) rfl) ?_
        refine RunT.ot0 (x := .v (.bool (!r10))) rfl rfl rfl rfl (.assignX rfl) ?_
        refine RunT.nil ?_
        refine T.cond2 (t := !r10) rfl (fun c12 => ?_) (fun c12 => ?_)
        · replace H := ct H c12
          refine T.seq ?_
          refine T.region ?_
          refine RunT.ot0 (x := .v (.string (⟨#[107, 105, 108, 108, 115]⟩ : ByteArray))) rfl rfl rfl rfl (.assignX rfl) ?_
          refine RunT.nil ?_
          obtain rfl := si H
          refine T.sub (sub_to (st' := ⟨[(2, .v (.string (⟨#[107, 105, 108, 108, 115]⟩ : ByteArray)))], [], 8, []⟩) [] (by decide) rfl rfl (⟨⟨_, rfl, .one .v⟩, trivial⟩) (trivial)) ?_
          refine T.ret ?_
          exact RetOk.same [.v (.string (⟨#[107, 105, 108, 108, 115]⟩ : ByteArray))] ⟨rfl, trivial⟩ rfl rfl rfl
        · replace H := cf H c12
          refine T.seq ?_
          refine T.region ?_
          refine RunT.ot0 (x := .ptr 0 4) rfl rfl rfl rfl (.fieldPX fl26_4 rfl rfl) ?_
          refine RunT.ot0 (x := .lst (List.map ePole a0.Poles)) rfl rfl rfl rfl (.loadP ty24 rfl rfl rfl) ?_
          obtain ⟨r13, h14, H⟩ := bs H
          refine RunT.ot0 (x := .v (.bool r13)) rfl rfl rfl rfl (.callp (venue_poles_pc false k a0.Poles r13 h14) rfl ⟨(.one .lst), trivial⟩ rfl rfl rfl) ?_
          refine RunT.ot0 (x := .v (.bool (!r13))) rfl rfl rfl rfl (.un rfl (fun w => u_not w) rfl) ?_
          refine RunT.ot0 (x := .v (.bool (!r13))) rfl rfl rfl rfl (.assignX rfl) ?_
          refine RunT.nil ?_
          refine T.cond2 (t := !r13) rfl (fun c15 => ?_) (fun c15 => ?_)
          · replace H := ct H c15
            refine T.seq ?_
            refine T.region ?_
            refine RunT.ot0 (x := .v (.string (⟨#[112, 111, 108, 101, 115]⟩ : ByteArray))) rfl rfl rfl rfl (.assignX rfl) ?_
            refine RunT.nil ?_
            obtain rfl := si H
            refine T.sub (sub_to (st' := ⟨[(2, .v (.string (⟨#[112, 111, 108, 101, 115]⟩ : ByteArray)))], [], 8, []⟩) [] (by decide) rfl rfl (⟨⟨_, rfl, .one .v⟩, trivial⟩) (trivial)) ?_
            refine T.ret ?_
            exact RetOk.same [.v (.string (⟨#[112, 111, 108, 101, 115]⟩ : ByteArray))] ⟨rfl, trivial⟩ rfl rfl rfl
          · replace H := cf H c15
            refine T.skip ?_
            refine T.seq ?_
            refine T.sub (sub_pick [] [] (st' := ⟨[], [], 8, []⟩) rfl rfl rfl rfl rfl) ?_
            refine T.region ?_
            refine RunT.ot0 (x := .v (.string (⟨#[]⟩ : ByteArray))) rfl rfl rfl rfl (.assignX rfl) ?_
            refine RunT.nil ?_
            obtain rfl := si H
            refine T.sub (sub_to (st' := ⟨[(2, .v (.string (⟨#[]⟩ : ByteArray)))], [], 8, []⟩) [] (by decide) rfl rfl (⟨⟨_, rfl, .one .v⟩, trivial⟩) (trivial)) ?_
            refine T.ret ?_
            exact RetOk.same [.v (.string (⟨#[]⟩ : ByteArray))] ⟨rfl, trivial⟩ rfl rfl rfl
set_option maxHeartbeats 4000000 in
theorem venue_May_pc (al : Bool) (k : Nat) (a0 : Venue) (o : Bool) (H : venue_May k a0 = some o) : PC Try.prog al 92 [.agg [.lst (List.map eSeat a0.Seats), .v (.int .i64 a0.Gap), .v (.int .i64 a0.Radius), .lst (List.map eI a0.Kills), .lst (List.map ePole a0.Poles)]] (.v (.bool o)) := by
  unfold venue_May at H
  refine PC.of_T Try.func92 rfl rfl (n := 6) rfl rfl (.inr rfl) ?_
  intro base B w0
  refine T.st (st' := ⟨[(0, .agg [.lst (List.map eSeat a0.Seats), .v (.int .i64 a0.Gap), .v (.int .i64 a0.Radius), .lst (List.map eI a0.Kills), .lst (List.map ePole a0.Poles)])], [], 0, []⟩) rfl ?_
  refine T.seq ?_
  refine T.region ?_
  refine RunT.ot1 (x := .ptr 0 0) (p0 := (0, some (.box [.lst (List.map eSeat a0.Seats), .v (.int .i64 a0.Gap), .v (.int .i64 a0.Radius), .lst (List.map eI a0.Kills), .lst (List.map ePole a0.Poles)]))) (n' := 8) rfl rfl rfl rfl (.boxX rfl rfl rfl) rfl ?_
  refine RunT.ot0 (x := .v (.bool false)) rfl rfl rfl rfl (.assignX rfl) ?_
  refine RunT.nil ?_
  refine T.seq ?_
  refine T.region ?_
  refine RunT.ot0 (x := .agg [.lst (List.map eSeat a0.Seats), .v (.int .i64 a0.Gap), .v (.int .i64 a0.Radius), .lst (List.map eI a0.Kills), .lst (List.map ePole a0.Poles)]) rfl rfl rfl rfl (.loadP ty26 rfl rfl rfl) ?_
  obtain ⟨r1, h2, H⟩ := bs H
  refine RunT.ot0 (x := .v (.string r1)) rfl rfl rfl rfl (.callp (venue_Wrong_pc false k a0 r1 h2) rfl ⟨(.agg' ⟨.lst, .v, .v, .lst, .lst, trivial⟩), trivial⟩ rfl rfl rfl) ?_
  refine RunT.ot0 (x := .v (.bool (r1 == (⟨#[]⟩ : ByteArray)))) rfl rfl rfl rfl (.bin rfl rfl (fun w => eqStr w) rfl) ?_
  refine RunT.ot0 (x := .v (.bool (r1 == (⟨#[]⟩ : ByteArray)))) rfl rfl rfl rfl (.assignX rfl) ?_
  refine RunT.nil ?_
  obtain rfl := si H
  refine T.sub (sub_to (st' := ⟨[(2, .v (.bool (r1 == (⟨#[]⟩ : ByteArray))))], [], 8, []⟩) [] (by decide) rfl rfl (⟨⟨_, rfl, .one .v⟩, trivial⟩) (trivial)) ?_
  refine T.ret ?_
  exact RetOk.same [.v (.bool (r1 == (⟨#[]⟩ : ByteArray)))] ⟨rfl, trivial⟩ rfl rfl rfl
set_option maxHeartbeats 4000000 in
theorem run_next_pc (al : Bool) (k : Nat) (a0 : Venue) (a1 : Int) (o : Bool) (H : run_next k a0 a1 = some o) : PC Try.prog al 99 [.agg [.lst (List.map eSeat a0.Seats), .v (.int .i64 a0.Gap), .v (.int .i64 a0.Radius), .lst (List.map eI a0.Kills), .lst (List.map ePole a0.Poles)], .v (.int .i64 a1)] (.v (.bool o)) := by
  unfold run_next at H
  refine PC.of_T Try.func99 rfl rfl (n := 50) rfl rfl (.inr rfl) ?_
  intro base B w0
  refine T.st (st' := ⟨[(0, .agg [.lst (List.map eSeat a0.Seats), .v (.int .i64 a0.Gap), .v (.int .i64 a0.Radius), .lst (List.map eI a0.Kills), .lst (List.map ePole a0.Poles)]), (1, .v (.int .i64 a1))], [], 0, []⟩) rfl ?_
  refine T.seq ?_
  refine T.region ?_
  refine RunT.ot1 (x := .ptr 0 0) (p0 := (0, some (.box [.lst (List.map eSeat a0.Seats), .v (.int .i64 a0.Gap), .v (.int .i64 a0.Radius), .lst (List.map eI a0.Kills), .lst (List.map ePole a0.Poles)]))) (n' := 8) rfl rfl rfl rfl (.boxX rfl rfl rfl) rfl ?_
  refine RunT.ot0 (x := .v (.bool false)) rfl rfl rfl rfl (.assignX rfl) ?_
  refine RunT.nil ?_
  refine T.seq ?_
  refine T.draw (wr := []) mixed rfl rfl ?_ rfl
  refine RunD.ot0 (x := .v (.int .i64 a1)) rfl rfl rfl rfl (.moveX rfl) rfl ?_
  refine RunD.ot0 (x := .v (.bool (decide (0 ≤ a1)))) rfl rfl rfl rfl (.bin rfl rfl (fun w => b_geq w) rfl) rfl ?_
  refine RunD.ot0 (x := .v (.bool (decide (0 ≤ a1)))) rfl rfl rfl rfl (.moveX rfl) rfl ?_
  refine RunD.cases (t := 7) (c := decide (0 ≤ a1)) rfl (fun g12 => ?_) (fun g12 => ?_)
  · replace H := ct H g12
    refine RunD.gt0 (x := .v (.int .i64 a1)) rfl rfl rfl (bo g12) rfl rfl (.moveX rfl) rfl ?_
    refine RunD.gt0 (x := .ptr 0 0) rfl rfl rfl (bo g12) rfl rfl (.fieldPX fl26_0 rfl rfl) rfl ?_
    refine RunD.gt0 (x := .lst (List.map eSeat a0.Seats)) rfl rfl rfl (bo g12) rfl rfl (.loadP ty22 rfl rfl rfl) rfl ?_
    refine RunD.gt0 (x := .v (.int .i64 (a0.Seats.length : Int))) rfl rfl rfl (bo g12) rfl rfl (.lenLm Try.underlying22 rfl rfl) rfl ?_
    refine RunD.gt0 (x := .v (.int .i64 (wr ((a0.Seats.length : Int) - 1)))) rfl rfl rfl (bo g12) rfl rfl (.bin rfl rfl (fun w => b_subw w) rfl) rfl ?_
    refine RunD.gt0 (x := .v (.bool (decide (a1 < (wr ((a0.Seats.length : Int) - 1)))))) rfl rfl rfl (bo g12) rfl rfl (.bin rfl rfl (fun w => b_lss w) rfl) rfl ?_
    refine RunD.ot0 (x := .v (.bool (decide (a1 < (wr ((a0.Seats.length : Int) - 1)))))) rfl rfl rfl rfl (.pickT (bo g12) rfl) rfl ?_
    refine RunD.ot0 (x := .v (.bool (decide (a1 < (wr ((a0.Seats.length : Int) - 1)))))) rfl rfl rfl rfl (.moveX rfl) rfl ?_
    refine RunD.cases (t := 15) (c := decide (a1 < (wr ((a0.Seats.length : Int) - 1)))) rfl (fun g13 => ?_) (fun g13 => ?_)
    · replace H := ct H g13
      refine RunD.gt0 (x := .ptr 0 0) rfl rfl rfl (bo g13) rfl rfl (.fieldPX fl26_0 rfl rfl) rfl ?_
      refine RunD.gt0 (x := .lst (List.map eSeat a0.Seats)) rfl rfl rfl (bo g13) rfl rfl (.loadP ty22 rfl rfl rfl) rfl ?_
      refine RunD.gt0 (x := .v (.int .i64 a1)) rfl rfl rfl (bo g13) rfl rfl (.moveX rfl) rfl ?_
      refine RunD.gt0 (x := .v (.int .i64 (wr (a1 + 1)))) rfl rfl rfl (bo g13) rfl rfl (.bin rfl rfl (fun w => b_addw w) rfl) rfl ?_
      obtain ⟨y14, h15, H⟩ := bs H
      refine RunD.gt0 (x := .rptr [.v (.int .i64 y14.Row), .v (.int .i64 y14.X), .v (.int .i64 y14.Y), .v (.int .i64 y14.Kind)]) rfl rfl rfl (bo g13) rfl rfl (.idxLX h15 enc_Seat sl22 rfl rfl rfl) rfl ?_
      refine RunD.gt0 (x := .rptr [.v (.int .i64 y14.Row), .v (.int .i64 y14.X), .v (.int .i64 y14.Y), .v (.int .i64 y14.Kind)]) rfl rfl rfl (bo g13) rfl rfl (.fieldRX fl28_0 rfl rfl) rfl ?_
      refine RunD.gt0 (x := .v (.int .i64 y14.Row)) rfl rfl rfl (bo g13) rfl rfl (.loadR ty3 rfl rfl) rfl ?_
      refine RunD.gt0 (x := .ptr 0 0) rfl rfl rfl (bo g13) rfl rfl (.fieldPX fl26_0 rfl rfl) rfl ?_
      refine RunD.gt0 (x := .lst (List.map eSeat a0.Seats)) rfl rfl rfl (bo g13) rfl rfl (.loadP ty22 rfl rfl rfl) rfl ?_
      refine RunD.gt0 (x := .v (.int .i64 a1)) rfl rfl rfl (bo g13) rfl rfl (.moveX rfl) rfl ?_
      obtain ⟨y16, h17, H⟩ := bs H
      refine RunD.gt0 (x := .rptr [.v (.int .i64 y16.Row), .v (.int .i64 y16.X), .v (.int .i64 y16.Y), .v (.int .i64 y16.Kind)]) rfl rfl rfl (bo g13) rfl rfl (.idxLX h17 enc_Seat sl22 rfl rfl rfl) rfl ?_
      refine RunD.gt0 (x := .rptr [.v (.int .i64 y16.Row), .v (.int .i64 y16.X), .v (.int .i64 y16.Y), .v (.int .i64 y16.Kind)]) rfl rfl rfl (bo g13) rfl rfl (.fieldRX fl28_0 rfl rfl) rfl ?_
      refine RunD.gt0 (x := .v (.int .i64 y16.Row)) rfl rfl rfl (bo g13) rfl rfl (.loadR ty3 rfl rfl) rfl ?_
      refine RunD.gt0 (x := .v (.bool (decide (y14.Row = y16.Row)))) rfl rfl rfl (bo g13) rfl rfl (.bin rfl rfl (fun w => b_eql w) rfl) rfl ?_
      refine RunD.ot0 (x := .v (.bool (decide (y14.Row = y16.Row)))) rfl rfl rfl rfl (.pickT (bo g13) rfl) rfl ?_
      refine RunD.ot0 (x := .v (.bool (decide (y14.Row = y16.Row)))) rfl rfl rfl rfl (.moveX rfl) rfl ?_
      refine RunD.cases (t := 31) (c := decide (y14.Row = y16.Row)) rfl (fun g18 => ?_) (fun g18 => ?_)
      · replace H := ct H g18
        refine RunD.gt0 (x := .ptr 0 0) rfl rfl rfl (bo g18) rfl rfl (.fieldPX fl26_0 rfl rfl) rfl ?_
        refine RunD.gt0 (x := .lst (List.map eSeat a0.Seats)) rfl rfl rfl (bo g18) rfl rfl (.loadP ty22 rfl rfl rfl) rfl ?_
        refine RunD.gt0 (x := .v (.int .i64 a1)) rfl rfl rfl (bo g18) rfl rfl (.moveX rfl) rfl ?_
        refine RunD.gt0 (x := .v (.int .i64 (wr (a1 + 1)))) rfl rfl rfl (bo g18) rfl rfl (.bin rfl rfl (fun w => b_addw w) rfl) rfl ?_
        obtain ⟨y19, h20, H⟩ := bs H
        refine RunD.gt0 (x := .rptr [.v (.int .i64 y19.Row), .v (.int .i64 y19.X), .v (.int .i64 y19.Y), .v (.int .i64 y19.Kind)]) rfl rfl rfl (bo g18) rfl rfl (.idxLX h20 enc_Seat sl22 rfl rfl rfl) rfl ?_
        refine RunD.gt0 (x := .rptr [.v (.int .i64 y19.X), .v (.int .i64 y19.Y), .v (.int .i64 y19.Kind)]) rfl rfl rfl (bo g18) rfl rfl (.fieldRX fl28_1 rfl rfl) rfl ?_
        refine RunD.gt0 (x := .v (.int .i64 y19.X)) rfl rfl rfl (bo g18) rfl rfl (.loadR ty3 rfl rfl) rfl ?_
        refine RunD.gt0 (x := .ptr 0 0) rfl rfl rfl (bo g18) rfl rfl (.fieldPX fl26_0 rfl rfl) rfl ?_
        refine RunD.gt0 (x := .lst (List.map eSeat a0.Seats)) rfl rfl rfl (bo g18) rfl rfl (.loadP ty22 rfl rfl rfl) rfl ?_
        refine RunD.gt0 (x := .v (.int .i64 a1)) rfl rfl rfl (bo g18) rfl rfl (.moveX rfl) rfl ?_
        obtain ⟨y21, h22, H⟩ := bs H
        refine RunD.gt0 (x := .rptr [.v (.int .i64 y21.Row), .v (.int .i64 y21.X), .v (.int .i64 y21.Y), .v (.int .i64 y21.Kind)]) rfl rfl rfl (bo g18) rfl rfl (.idxLX h22 enc_Seat sl22 rfl rfl rfl) rfl ?_
        refine RunD.gt0 (x := .rptr [.v (.int .i64 y21.X), .v (.int .i64 y21.Y), .v (.int .i64 y21.Kind)]) rfl rfl rfl (bo g18) rfl rfl (.fieldRX fl28_1 rfl rfl) rfl ?_
        refine RunD.gt0 (x := .v (.int .i64 y21.X)) rfl rfl rfl (bo g18) rfl rfl (.loadR ty3 rfl rfl) rfl ?_
        refine RunD.gt0 (x := .v (.int .i64 (wr (y19.X - y21.X)))) rfl rfl rfl (bo g18) rfl rfl (.bin rfl rfl (fun w => b_subw w) rfl) rfl ?_
        refine RunD.gt0 (x := .ptr 0 1) rfl rfl rfl (bo g18) rfl rfl (.fieldPX fl26_1 rfl rfl) rfl ?_
        refine RunD.gt0 (x := .v (.int .i64 a0.Gap)) rfl rfl rfl (bo g18) rfl rfl (.loadP ty3 rfl rfl rfl) rfl ?_
        refine RunD.gt0 (x := .v (.bool (decide ((wr (y19.X - y21.X)) ≤ a0.Gap)))) rfl rfl rfl (bo g18) rfl rfl (.bin rfl rfl (fun w => b_leq w) rfl) rfl ?_
        refine RunD.ot0 (x := .v (.bool (decide ((wr (y19.X - y21.X)) ≤ a0.Gap)))) rfl rfl rfl rfl (.pickT (bo g18) rfl) rfl ?_
        refine RunD.ot0 (x := .v (.bool (decide ((wr (y19.X - y21.X)) ≤ a0.Gap)))) rfl rfl rfl rfl (.assignX rfl) rfl ?_
        refine RunD.nil (by kernel_rfl) ⟨rfl, rfl, ?_⟩
        obtain rfl := si H
        refine T.sub (sub_to (st' := ⟨[(4, .v (.bool (decide ((wr (y19.X - y21.X)) ≤ a0.Gap))))], [], 8, []⟩) [] (by decide) rfl rfl (⟨⟨_, rfl, .one .v⟩, trivial⟩) (trivial)) ?_
        refine T.ret ?_
        exact RetOk.same [.v (.bool (decide ((wr (y19.X - y21.X)) ≤ a0.Gap)))] ⟨rfl, trivial⟩ rfl rfl rfl
      · replace H := cf H g18
        refine RunD.xn rfl rfl rfl (bo g18) rfl rfl ?_
        refine RunD.xn rfl rfl rfl (bo g18) rfl rfl ?_
        refine RunD.xn rfl rfl rfl (bo g18) rfl rfl ?_
        refine RunD.xn rfl rfl rfl (bo g18) rfl rfl ?_
        refine RunD.xn rfl rfl rfl (bo g18) rfl rfl ?_
        refine RunD.xn rfl rfl rfl (bo g18) rfl rfl ?_
        refine RunD.xn rfl rfl rfl (bo g18) rfl rfl ?_
        refine RunD.xn rfl rfl rfl (bo g18) rfl rfl ?_
        refine RunD.xn rfl rfl rfl (bo g18) rfl rfl ?_
        refine RunD.xn rfl rfl rfl (bo g18) rfl rfl ?_
        refine RunD.xn rfl rfl rfl (bo g18) rfl rfl ?_
        refine RunD.xn rfl rfl rfl (bo g18) rfl rfl ?_
        refine RunD.xn rfl rfl rfl (bo g18) rfl rfl ?_
        refine RunD.xn rfl rfl rfl (bo g18) rfl rfl ?_
        refine RunD.xn rfl rfl rfl (bo g18) rfl rfl ?_
        refine RunD.xn rfl rfl rfl (bo g18) rfl rfl ?_
        refine RunD.xn rfl rfl rfl (bo g18) rfl rfl ?_
        refine RunD.ot0 (x := .v (.bool false)) rfl rfl rfl rfl (.pickF (bo g18) rfl) rfl ?_
        refine RunD.ot0 (x := .v (.bool false)) rfl rfl rfl rfl (.assignX rfl) rfl ?_
        refine RunD.nil (by kernel_rfl) ⟨rfl, rfl, ?_⟩
        obtain rfl := si H
        refine T.sub (sub_to (st' := ⟨[(4, .v (.bool false))], [], 8, []⟩) [] (by decide) rfl rfl (⟨⟨_, rfl, .one .v⟩, trivial⟩) (trivial)) ?_
        refine T.ret ?_
        exact RetOk.same [.v (.bool false)] ⟨rfl, trivial⟩ rfl rfl rfl
    · replace H := cf H g13
      refine RunD.xn rfl rfl rfl (bo g13) rfl rfl ?_
      refine RunD.xn rfl rfl rfl (bo g13) rfl rfl ?_
      refine RunD.xn rfl rfl rfl (bo g13) rfl rfl ?_
      refine RunD.xn rfl rfl rfl (bo g13) rfl rfl ?_
      refine RunD.xn rfl rfl rfl (bo g13) rfl rfl ?_
      refine RunD.xn rfl rfl rfl (bo g13) rfl rfl ?_
      refine RunD.xn rfl rfl rfl (bo g13) rfl rfl ?_
      refine RunD.xn rfl rfl rfl (bo g13) rfl rfl ?_
      refine RunD.xn rfl rfl rfl (bo g13) rfl rfl ?_
      refine RunD.xn rfl rfl rfl (bo g13) rfl rfl ?_
      refine RunD.xn rfl rfl rfl (bo g13) rfl rfl ?_
      refine RunD.xn rfl rfl rfl (bo g13) rfl rfl ?_
      refine RunD.xn rfl rfl rfl (bo g13) rfl rfl ?_
      refine RunD.xn rfl rfl rfl (bo g13) rfl rfl ?_
      refine RunD.ot0 (x := .v (.bool false)) rfl rfl rfl rfl (.pickF (bo g13) rfl) rfl ?_
      refine RunD.ot0 (x := .v (.bool false)) rfl rfl rfl rfl (.moveX rfl) rfl ?_
      refine RunD.xn rfl rfl rfl rfl rfl rfl ?_
      refine RunD.xn rfl rfl rfl rfl rfl rfl ?_
      refine RunD.xn rfl rfl rfl rfl rfl rfl ?_
      refine RunD.xn rfl rfl rfl rfl rfl rfl ?_
      refine RunD.xn rfl rfl rfl rfl rfl rfl ?_
      refine RunD.xn rfl rfl rfl rfl rfl rfl ?_
      refine RunD.xn rfl rfl rfl rfl rfl rfl ?_
      refine RunD.xn rfl rfl rfl rfl rfl rfl ?_
      refine RunD.xn rfl rfl rfl rfl rfl rfl ?_
      refine RunD.xn rfl rfl rfl rfl rfl rfl ?_
      refine RunD.xn rfl rfl rfl rfl rfl rfl ?_
      refine RunD.xn rfl rfl rfl rfl rfl rfl ?_
      refine RunD.xn rfl rfl rfl rfl rfl rfl ?_
      refine RunD.xn rfl rfl rfl rfl rfl rfl ?_
      refine RunD.xn rfl rfl rfl rfl rfl rfl ?_
      refine RunD.xn rfl rfl rfl rfl rfl rfl ?_
      refine RunD.xn rfl rfl rfl rfl rfl rfl ?_
      refine RunD.ot0 (x := .v (.bool false)) rfl rfl rfl rfl (.pickF rfl rfl) rfl ?_
      refine RunD.ot0 (x := .v (.bool false)) rfl rfl rfl rfl (.assignX rfl) rfl ?_
      refine RunD.nil (by kernel_rfl) ⟨rfl, rfl, ?_⟩
      obtain rfl := si H
      refine T.sub (sub_to (st' := ⟨[(4, .v (.bool false))], [], 8, []⟩) [] (by decide) rfl rfl (⟨⟨_, rfl, .one .v⟩, trivial⟩) (trivial)) ?_
      refine T.ret ?_
      exact RetOk.same [.v (.bool false)] ⟨rfl, trivial⟩ rfl rfl rfl
  · replace H := cf H g12
    refine RunD.xn rfl rfl rfl (bo g12) rfl rfl ?_
    refine RunD.xn rfl rfl rfl (bo g12) rfl rfl ?_
    refine RunD.xn rfl rfl rfl (bo g12) rfl rfl ?_
    refine RunD.xn rfl rfl rfl (bo g12) rfl rfl ?_
    refine RunD.xn rfl rfl rfl (bo g12) rfl rfl ?_
    refine RunD.xn rfl rfl rfl (bo g12) rfl rfl ?_
    refine RunD.ot0 (x := .v (.bool false)) rfl rfl rfl rfl (.pickF (bo g12) rfl) rfl ?_
    refine RunD.ot0 (x := .v (.bool false)) rfl rfl rfl rfl (.moveX rfl) rfl ?_
    refine RunD.xn rfl rfl rfl rfl rfl rfl ?_
    refine RunD.xn rfl rfl rfl rfl rfl rfl ?_
    refine RunD.xn rfl rfl rfl rfl rfl rfl ?_
    refine RunD.xn rfl rfl rfl rfl rfl rfl ?_
    refine RunD.xn rfl rfl rfl rfl rfl rfl ?_
    refine RunD.xn rfl rfl rfl rfl rfl rfl ?_
    refine RunD.xn rfl rfl rfl rfl rfl rfl ?_
    refine RunD.xn rfl rfl rfl rfl rfl rfl ?_
    refine RunD.xn rfl rfl rfl rfl rfl rfl ?_
    refine RunD.xn rfl rfl rfl rfl rfl rfl ?_
    refine RunD.xn rfl rfl rfl rfl rfl rfl ?_
    refine RunD.xn rfl rfl rfl rfl rfl rfl ?_
    refine RunD.xn rfl rfl rfl rfl rfl rfl ?_
    refine RunD.xn rfl rfl rfl rfl rfl rfl ?_
    refine RunD.ot0 (x := .v (.bool false)) rfl rfl rfl rfl (.pickF rfl rfl) rfl ?_
    refine RunD.ot0 (x := .v (.bool false)) rfl rfl rfl rfl (.moveX rfl) rfl ?_
    refine RunD.xn rfl rfl rfl rfl rfl rfl ?_
    refine RunD.xn rfl rfl rfl rfl rfl rfl ?_
    refine RunD.xn rfl rfl rfl rfl rfl rfl ?_
    refine RunD.xn rfl rfl rfl rfl rfl rfl ?_
    refine RunD.xn rfl rfl rfl rfl rfl rfl ?_
    refine RunD.xn rfl rfl rfl rfl rfl rfl ?_
    refine RunD.xn rfl rfl rfl rfl rfl rfl ?_
    refine RunD.xn rfl rfl rfl rfl rfl rfl ?_
    refine RunD.xn rfl rfl rfl rfl rfl rfl ?_
    refine RunD.xn rfl rfl rfl rfl rfl rfl ?_
    refine RunD.xn rfl rfl rfl rfl rfl rfl ?_
    refine RunD.xn rfl rfl rfl rfl rfl rfl ?_
    refine RunD.xn rfl rfl rfl rfl rfl rfl ?_
    refine RunD.xn rfl rfl rfl rfl rfl rfl ?_
    refine RunD.xn rfl rfl rfl rfl rfl rfl ?_
    refine RunD.xn rfl rfl rfl rfl rfl rfl ?_
    refine RunD.xn rfl rfl rfl rfl rfl rfl ?_
    refine RunD.ot0 (x := .v (.bool false)) rfl rfl rfl rfl (.pickF rfl rfl) rfl ?_
    refine RunD.ot0 (x := .v (.bool false)) rfl rfl rfl rfl (.assignX rfl) rfl ?_
    refine RunD.nil (by kernel_rfl) ⟨rfl, rfl, ?_⟩
    obtain rfl := si H
    refine T.sub (sub_to (st' := ⟨[(4, .v (.bool false))], [], 8, []⟩) [] (by decide) rfl rfl (⟨⟨_, rfl, .one .v⟩, trivial⟩) (trivial)) ?_
    refine T.ret ?_
    exact RetOk.same [.v (.bool false)] ⟨rfl, trivial⟩ rfl rfl rfl
set_option maxHeartbeats 4000000 in
theorem run_free_pc (al : Bool) (k : Nat) (a0 : Venue) (a1 : (List Bool)) (a2 : Int) (o : Bool) (H : run_free k a0 a1 a2 = some o) : PC Try.prog al 136 [.agg [.lst (List.map eSeat a0.Seats), .v (.int .i64 a0.Gap), .v (.int .i64 a0.Radius), .lst (List.map eI a0.Kills), .lst (List.map ePole a0.Poles)], .lst (List.map eB a1), .v (.int .i64 a2)] (.v (.bool o)) := by
  unfold run_free at H
  refine PC.of_T Try.func136 rfl rfl (n := 25) rfl rfl (.inr rfl) ?_
  intro base B w0
  refine T.st (st' := ⟨[(0, .agg [.lst (List.map eSeat a0.Seats), .v (.int .i64 a0.Gap), .v (.int .i64 a0.Radius), .lst (List.map eI a0.Kills), .lst (List.map ePole a0.Poles)]), (1, .lst (List.map eB a1)), (2, .v (.int .i64 a2))], [], 0, []⟩) rfl ?_
  refine T.seq ?_
  refine T.region ?_
  refine RunT.ot1 (x := .ptr 0 0) (p0 := (0, some (.box [.lst (List.map eSeat a0.Seats), .v (.int .i64 a0.Gap), .v (.int .i64 a0.Radius), .lst (List.map eI a0.Kills), .lst (List.map ePole a0.Poles)]))) (n' := 8) rfl rfl rfl rfl (.boxX rfl rfl rfl) rfl ?_
  refine RunT.ot0 (x := .v (.bool false)) rfl rfl rfl rfl (.assignX rfl) ?_
  refine RunT.nil ?_
  refine T.seq ?_
  refine T.block ?_
  refine T.seq ?_
  refine T.block ?_
  refine T.block ?_
  refine T.block ?_
  refine T.seq ?_
  refine T.seq ?_
  refine T.seq ?_
  refine T.region ?_
  refine RunT.ot0 (x := .v (.int .i64 a2)) rfl rfl rfl rfl (.moveX rfl) ?_
  refine RunT.ot0 (x := .v (.bool (decide (a2 < 0)))) rfl rfl rfl rfl (.bin rfl rfl (fun w => b_lss w) rfl) ?_
  refine RunT.ot0 (x := .v (.bool (decide (a2 < 0)))) rfl rfl rfl rfl (.assignX rfl) ?_
  refine RunT.nil ?_
  refine T.cond2 (t := decide (a2 < 0)) rfl (fun c1 => ?_) (fun c1 => ?_)
  · replace H := ct H c1
    refine T.exit ?_
    refine T.seq ?_
    refine T.seq ?_
    refine T.region ?_
    refine RunT.ot0 (x := .v (.bool false)) rfl rfl rfl rfl (.assignX rfl) ?_
    refine RunT.nil ?_
    obtain rfl := si H
    refine T.sub (sub_to (st' := ⟨[(6, .v (.bool false))], [], 8, []⟩) [] (by decide) rfl rfl (⟨⟨_, rfl, .one .v⟩, trivial⟩) (trivial)) ?_
    refine T.ret ?_
    exact RetOk.same [.v (.bool false)] ⟨rfl, trivial⟩ rfl rfl rfl
  · replace H := cf H c1
    refine T.skip ?_
    refine T.seq ?_
    refine T.seq ?_
    refine T.region ?_
    refine RunT.ot0 (x := .v (.int .i64 a2)) rfl rfl rfl rfl (.moveX rfl) ?_
    refine RunT.ot0 (x := .ptr 0 0) rfl rfl rfl rfl (.fieldPX fl26_0 rfl rfl) ?_
    refine RunT.ot0 (x := .lst (List.map eSeat a0.Seats)) rfl rfl rfl rfl (.loadP ty22 rfl rfl rfl) ?_
    refine RunT.ot0 (x := .v (.int .i64 (a0.Seats.length : Int))) rfl rfl rfl rfl (.lenLm Try.underlying22 rfl rfl) ?_
    refine RunT.ot0 (x := .v (.bool (decide ((a0.Seats.length : Int) ≤ a2)))) rfl rfl rfl rfl (.bin rfl rfl (fun w => b_geq w) rfl) ?_
    refine RunT.ot0 (x := .v (.bool (decide ((a0.Seats.length : Int) ≤ a2)))) rfl rfl rfl rfl (.assignX rfl) ?_
    refine RunT.nil ?_
    refine T.cond2 (t := decide ((a0.Seats.length : Int) ≤ a2)) rfl (fun c2 => ?_) (fun c2 => ?_)
    · replace H := ct H c2
      refine T.exit ?_
      refine T.seq ?_
      refine T.seq ?_
      refine T.region ?_
      refine RunT.ot0 (x := .v (.bool false)) rfl rfl rfl rfl (.assignX rfl) ?_
      refine RunT.nil ?_
      obtain rfl := si H
      refine T.sub (sub_to (st' := ⟨[(6, .v (.bool false))], [], 8, []⟩) [] (by decide) rfl rfl (⟨⟨_, rfl, .one .v⟩, trivial⟩) (trivial)) ?_
      refine T.ret ?_
      exact RetOk.same [.v (.bool false)] ⟨rfl, trivial⟩ rfl rfl rfl
    · replace H := cf H c2
      refine T.skip ?_
      refine T.seq ?_
      refine T.region ?_
      refine RunT.ot0 (x := .v (.int .i64 a2)) rfl rfl rfl rfl (.moveX rfl) ?_
      refine RunT.ot0 (x := .lst (List.map eB a1)) rfl rfl rfl rfl (.moveX rfl) ?_
      refine RunT.ot0 (x := .v (.int .i64 (a1.length : Int))) rfl rfl rfl rfl (.lenLm Try.underlying43 rfl rfl) ?_
      refine RunT.ot0 (x := .v (.bool (decide ((a1.length : Int) ≤ a2)))) rfl rfl rfl rfl (.bin rfl rfl (fun w => b_geq w) rfl) ?_
      refine RunT.ot0 (x := .v (.bool (decide ((a1.length : Int) ≤ a2)))) rfl rfl rfl rfl (.assignX rfl) ?_
      refine RunT.nil ?_
      refine T.cond2 (t := decide ((a1.length : Int) ≤ a2)) rfl (fun c3 => ?_) (fun c3 => ?_)
      · replace H := ct H c3
        refine T.exit ?_
        refine T.seq ?_
        refine T.seq ?_
        refine T.sub (sub_pick [] [] (st' := ⟨[], [], 8, []⟩) rfl rfl rfl rfl rfl) ?_
        refine T.region ?_
        refine RunT.ot0 (x := .v (.bool false)) rfl rfl rfl rfl (.assignX rfl) ?_
        refine RunT.nil ?_
        obtain rfl := si H
        refine T.sub (sub_to (st' := ⟨[(6, .v (.bool false))], [], 8, []⟩) [] (by decide) rfl rfl (⟨⟨_, rfl, .one .v⟩, trivial⟩) (trivial)) ?_
        refine T.ret ?_
        exact RetOk.same [.v (.bool false)] ⟨rfl, trivial⟩ rfl rfl rfl
      · replace H := cf H c3
        refine T.skip ?_
        refine T.exit ?_
        refine T.seq ?_
        refine T.region ?_
        refine RunT.ot0 (x := .lst (List.map eB a1)) rfl rfl rfl rfl (.moveX rfl) ?_
        refine RunT.ot0 (x := .v (.int .i64 a2)) rfl rfl rfl rfl (.moveX rfl) ?_
        obtain ⟨y4, h5, H⟩ := bs H
        refine RunT.ot0 (x := .rptr [.v (.bool y4)]) rfl rfl rfl rfl (.idxLX h5 enc_B sl43 rfl rfl rfl) ?_
        refine RunT.ot0 (x := .v (.bool y4)) rfl rfl rfl rfl (.loadR ty4 rfl rfl) ?_
        refine RunT.ot0 (x := .v (.bool y4)) rfl rfl rfl rfl (.assignX rfl) ?_
        refine RunT.nil ?_
        obtain rfl := si H
        refine T.sub (sub_to (st' := ⟨[(6, .v (.bool y4))], [], 8, []⟩) [] (by decide) rfl rfl (⟨⟨_, rfl, .one .v⟩, trivial⟩) (trivial)) ?_
        refine T.ret ?_
        exact RetOk.same [.v (.bool y4)] ⟨rfl, trivial⟩ rfl rfl rfl
set_option maxHeartbeats 4000000 in
theorem run_long_pc (al : Bool) (k : Nat) (a0 : Venue) (a1 : (List Bool)) (a2 : Int) (a3 : Int) (o : Int) (H : run_long k a0 a1 a2 a3 = some o) : PC Try.prog al 101 [.agg [.lst (List.map eSeat a0.Seats), .v (.int .i64 a0.Gap), .v (.int .i64 a0.Radius), .lst (List.map eI a0.Kills), .lst (List.map ePole a0.Poles)], .lst (List.map eB a1), .v (.int .i64 a2), .v (.int .i64 a3)] (.v (.int .i64 o)) := by
  unfold run_long at H
  refine PC.of_T Try.func101 rfl rfl (n := 36) rfl rfl (.inr rfl) ?_
  intro base B w0
  refine T.st (st' := ⟨[(0, .agg [.lst (List.map eSeat a0.Seats), .v (.int .i64 a0.Gap), .v (.int .i64 a0.Radius), .lst (List.map eI a0.Kills), .lst (List.map ePole a0.Poles)]), (1, .lst (List.map eB a1)), (2, .v (.int .i64 a2)), (3, .v (.int .i64 a3))], [], 0, []⟩) rfl ?_
  refine T.seq ?_
  refine T.region ?_
  refine RunT.ot1 (x := .ptr 0 0) (p0 := (0, some (.box [.lst (List.map eSeat a0.Seats), .v (.int .i64 a0.Gap), .v (.int .i64 a0.Radius), .lst (List.map eI a0.Kills), .lst (List.map ePole a0.Poles)]))) (n' := 8) rfl rfl rfl rfl (.boxX rfl rfl rfl) rfl ?_
  refine RunT.ot0 (x := .v (.int .i64 0)) rfl rfl rfl rfl (.assignX rfl) ?_
  refine RunT.nil ?_
  refine T.seq ?_
  refine T.region ?_
  refine RunT.ot0 (x := .v (.int .i64 0)) rfl rfl rfl rfl (.assignX rfl) ?_
  refine RunT.nil ?_
  obtain ⟨o18, E19, HO20⟩ := bs H
  refine T.cut (⟨[(9, .v (.int .i64 o18))], [], 8, []⟩) ?_ ?_
  · have H := E19
    refine T.block ?_
    refine T.loopS (fun n s => ∃ (v21 : Int), run_long_l0 k a0 a1 a2 a3 n v21 = some o18 ∧ s = ⟨[(1, .lst (List.map eB a1)), (2, .v (.int .i64 a2)), (3, .v (.int .i64 a3)), (4, .ptr 0 0), (9, .v (.int .i64 v21))], [(0, some (.box [.lst (List.map eSeat a0.Seats), .v (.int .i64 a0.Gap), .v (.int .i64 a0.Radius), .lst (List.map eI a0.Kills), .lst (List.map ePole a0.Poles)]))], 8, []⟩) k ⟨_, ⟨0, H, rfl⟩, sub_to [some 0] (by decide) rfl rfl (⟨⟨_, rfl, .one .lst⟩, ⟨⟨_, rfl, .one .v⟩, ⟨⟨_, rfl, .one .v⟩, ⟨⟨_, rfl, .one (.ptr rfl)⟩, ⟨⟨_, rfl, .one .v⟩, trivial⟩⟩⟩⟩⟩) (⟨⟨rfl, .inl ⟨_, _, rfl, rfl, .box ⟨.lst, .v, .v, .lst, .lst, trivial⟩⟩⟩, trivial⟩)⟩ ?_
    rintro n s ⟨v21, H, rfl⟩
    rcases n with _ | n
    · cases (show none = some _ from H)
    rw [run_long_l0] at H
    refine T.seq ?_
    refine T.seq ?_
    refine T.sub (sub_pick [1, 2, 3, 4, 9] [0] (st' := ⟨[(1, .lst (List.map eB a1)), (2, .v (.int .i64 a2)), (3, .v (.int .i64 a3)), (4, .ptr 0 0), (9, .v (.int .i64 v21))], [(0, some (.box [.lst (List.map eSeat a0.Seats), .v (.int .i64 a0.Gap), .v (.int .i64 a0.Radius), .lst (List.map eI a0.Kills), .lst (List.map ePole a0.Poles)]))], 8, []⟩) rfl rfl rfl rfl rfl) ?_
    refine T.region ?_
    refine RunT.ot0 (x := .v (.int .i64 v21)) rfl rfl rfl rfl (.moveX rfl) ?_
    refine RunT.ot0 (x := .v (.int .i64 a3)) rfl rfl rfl rfl (.moveX rfl) ?_
    refine RunT.ot0 (x := .v (.bool (decide (v21 < a3)))) rfl rfl rfl rfl (.bin rfl rfl (fun w => b_lss w) rfl) ?_
    refine RunT.ot0 (x := .v (.bool (decide (v21 < a3)))) rfl rfl rfl rfl (.moveX rfl) ?_
    refine RunT.cases (t := 13) (c := decide (v21 < a3)) rfl (fun g22 => ?_) (fun g22 => ?_)
    · replace H := ct H g22
      refine RunT.gt0 (x := .agg [.lst (List.map eSeat a0.Seats), .v (.int .i64 a0.Gap), .v (.int .i64 a0.Radius), .lst (List.map eI a0.Kills), .lst (List.map ePole a0.Poles)]) rfl rfl rfl (bo g22) rfl rfl (.loadP ty26 rfl rfl rfl) ?_
      refine RunT.gt0 (x := .lst (List.map eB a1)) rfl rfl rfl (bo g22) rfl rfl (.moveX rfl) ?_
      refine RunT.gt0 (x := .v (.int .i64 a2)) rfl rfl rfl (bo g22) rfl rfl (.moveX rfl) ?_
      refine RunT.gt0 (x := .v (.int .i64 v21)) rfl rfl rfl (bo g22) rfl rfl (.moveX rfl) ?_
      refine RunT.gt0 (x := .v (.int .i64 (wr (a2 + v21)))) rfl rfl rfl (bo g22) rfl rfl (.bin rfl rfl (fun w => b_addw w) rfl) ?_
      obtain ⟨r23, h24, H⟩ := bs H
      refine RunT.gt0 (x := .v (.bool r23)) rfl rfl rfl (bo g22) rfl rfl (.callp (run_free_pc false k a0 a1 (wr (a2 + v21)) r23 h24) rfl ⟨(.agg' ⟨.lst, .v, .v, .lst, .lst, trivial⟩), (.one .lst), (.one .v), trivial⟩ rfl rfl rfl) ?_
      refine RunT.ot0 (x := .v (.bool r23)) rfl rfl rfl rfl (.pickT (bo g22) rfl) ?_
      refine RunT.ot0 (x := .v (.bool r23)) rfl rfl rfl rfl (.moveX rfl) ?_
      refine RunT.cases (t := 21) (c := r23) rfl (fun g25 => ?_) (fun g25 => ?_)
      · replace H := ct H g25
        refine RunT.gt0 (x := .v (.int .i64 v21)) rfl rfl rfl (bo g25) rfl rfl (.moveX rfl) ?_
        refine RunT.gt0 (x := .v (.bool (decide (v21 = 0)))) rfl rfl rfl (bo g25) rfl rfl (.bin rfl rfl (fun w => b_eql w) rfl) ?_
        refine RunT.gt0 (x := .v (.bool (decide (v21 = 0)))) rfl rfl rfl (bo g25) rfl rfl (.moveX rfl) ?_
        refine RunT.cases (t := 24) (c := decide (v21 = 0)) rfl (fun g26 => ?_) (fun g26 => ?_)
        · replace H := ct H g26
          refine RunT.xn rfl rfl rfl (bo g26) rfl rfl ?_
          refine RunT.xn rfl rfl rfl (bo g26) rfl rfl ?_
          refine RunT.xn rfl rfl rfl (bo g26) rfl rfl ?_
          refine RunT.xn rfl rfl rfl (bo g26) rfl rfl ?_
          refine RunT.xn rfl rfl rfl (bo g26) rfl rfl ?_
          refine RunT.xn rfl rfl rfl (bo g26) rfl rfl ?_
          refine RunT.gt0 (x := .v (.bool true)) rfl rfl rfl (bo g25) rfl rfl (.pickT (bo g26) rfl) ?_
          refine RunT.ot0 (x := .v (.bool true)) rfl rfl rfl rfl (.pickT (bo g25) rfl) ?_
          refine RunT.nil ?_
          refine T.condT rfl ?_
          refine T.skip ?_
          refine T.block ?_
          refine T.sub (sub_pick [1, 2, 3, 4, 9] [0] (st' := ⟨[(1, .lst (List.map eB a1)), (2, .v (.int .i64 a2)), (3, .v (.int .i64 a3)), (4, .ptr 0 0), (9, .v (.int .i64 v21))], [(0, some (.box [.lst (List.map eSeat a0.Seats), .v (.int .i64 a0.Gap), .v (.int .i64 a0.Radius), .lst (List.map eI a0.Kills), .lst (List.map ePole a0.Poles)]))], 8, []⟩) rfl rfl rfl rfl rfl) ?_
          refine T.region ?_
          refine RunT.ot0 (x := .v (.int .i64 v21)) rfl rfl rfl rfl (.moveX rfl) ?_
          refine RunT.ot0 (x := .v (.int .i64 (wr (v21 + 1)))) rfl rfl rfl rfl (.bin rfl rfl (fun w => b_addw w) rfl) ?_
          refine RunT.ot0 (x := .v (.int .i64 (wr (v21 + 1)))) rfl rfl rfl rfl (.assignX rfl) ?_
          refine RunT.nil ?_
          exact ⟨n, Nat.lt_succ_self n, _, ⟨wr (v21 + 1), H, rfl⟩, (sub_to [some 0] (by decide) rfl rfl (⟨⟨_, rfl, .one .lst⟩, ⟨⟨_, rfl, .one .v⟩, ⟨⟨_, rfl, .one .v⟩, ⟨⟨_, rfl, .one (.ptr rfl)⟩, ⟨⟨_, rfl, .one .v⟩, trivial⟩⟩⟩⟩⟩) (⟨⟨rfl, .inl ⟨_, _, rfl, rfl, .box ⟨.lst, .v, .v, .lst, .lst, trivial⟩⟩⟩, trivial⟩))⟩
        · replace H := cf H g26
          refine RunT.gt0 (x := .agg [.lst (List.map eSeat a0.Seats), .v (.int .i64 a0.Gap), .v (.int .i64 a0.Radius), .lst (List.map eI a0.Kills), .lst (List.map ePole a0.Poles)]) rfl rfl rfl (bo g26) rfl rfl (.loadP ty26 rfl rfl rfl) ?_
          refine RunT.gt0 (x := .v (.int .i64 a2)) rfl rfl rfl (bo g26) rfl rfl (.moveX rfl) ?_
          refine RunT.gt0 (x := .v (.int .i64 v21)) rfl rfl rfl (bo g26) rfl rfl (.moveX rfl) ?_
          refine RunT.gt0 (x := .v (.int .i64 (wr (a2 + v21)))) rfl rfl rfl (bo g26) rfl rfl (.bin rfl rfl (fun w => b_addw w) rfl) ?_
          refine RunT.gt0 (x := .v (.int .i64 (wr ((wr (a2 + v21)) - 1)))) rfl rfl rfl (bo g26) rfl rfl (.bin rfl rfl (fun w => b_subw w) rfl) ?_
          obtain ⟨r27, h28, H⟩ := bs H
          refine RunT.gt0 (x := .v (.bool r27)) rfl rfl rfl (bo g26) rfl rfl (.callp (run_next_pc false k a0 (wr ((wr (a2 + v21)) - 1)) r27 h28) rfl ⟨(.agg' ⟨.lst, .v, .v, .lst, .lst, trivial⟩), (.one .v), trivial⟩ rfl rfl rfl) ?_
          refine RunT.gt0 (x := .v (.bool r27)) rfl rfl rfl (bo g25) rfl rfl (.pickF (bo g26) rfl) ?_
          refine RunT.ot0 (x := .v (.bool r27)) rfl rfl rfl rfl (.pickT (bo g25) rfl) ?_
          refine RunT.nil ?_
          refine T.cond2 (t := r27) rfl (fun c29 => ?_) (fun c29 => ?_)
          · replace H := ct H c29
            refine T.skip ?_
            refine T.block ?_
            refine T.region ?_
            refine RunT.ot0 (x := .v (.int .i64 v21)) rfl rfl rfl rfl (.moveX rfl) ?_
            refine RunT.ot0 (x := .v (.int .i64 (wr (v21 + 1)))) rfl rfl rfl rfl (.bin rfl rfl (fun w => b_addw w) rfl) ?_
            refine RunT.ot0 (x := .v (.int .i64 (wr (v21 + 1)))) rfl rfl rfl rfl (.assignX rfl) ?_
            refine RunT.nil ?_
            exact ⟨n, Nat.lt_succ_self n, _, ⟨wr (v21 + 1), H, rfl⟩, (sub_to [some 0] (by decide) rfl rfl (⟨⟨_, rfl, .one .lst⟩, ⟨⟨_, rfl, .one .v⟩, ⟨⟨_, rfl, .one .v⟩, ⟨⟨_, rfl, .one (.ptr rfl)⟩, ⟨⟨_, rfl, .one .v⟩, trivial⟩⟩⟩⟩⟩) (⟨⟨rfl, .inl ⟨_, _, rfl, rfl, .box ⟨.lst, .v, .v, .lst, .lst, trivial⟩⟩⟩, trivial⟩))⟩
          · replace H := cf H c29
            refine T.exit ?_
            obtain rfl := si H
            exact (sub_to [] (by decide) rfl rfl (⟨⟨_, rfl, .one .v⟩, trivial⟩) (trivial))
      · replace H := cf H g25
        refine RunT.xn rfl rfl rfl (bo g25) rfl rfl ?_
        refine RunT.xn rfl rfl rfl (bo g25) rfl rfl ?_
        refine RunT.xn rfl rfl rfl (bo g25) rfl rfl ?_
        refine RunT.xu rfl rfl rfl rfl rfl rfl ?_
        refine RunT.xu rfl rfl rfl rfl rfl rfl ?_
        refine RunT.xu rfl rfl rfl rfl rfl rfl ?_
        refine RunT.xu rfl rfl rfl rfl rfl rfl ?_
        refine RunT.xu rfl rfl rfl rfl rfl rfl ?_
        refine RunT.xu rfl rfl rfl rfl rfl rfl ?_
        refine RunT.xn rfl rfl rfl (bo g25) rfl rfl ?_
        refine RunT.ot0 (x := .v (.bool false)) rfl rfl rfl rfl (.pickF (bo g25) rfl) ?_
        refine RunT.nil ?_
        refine T.condF rfl ?_
        refine T.exit ?_
        obtain rfl := si H
        exact (sub_to [] (by decide) rfl rfl (⟨⟨_, rfl, .one .v⟩, trivial⟩) (trivial))
    · replace H := cf H g22
      refine RunT.xn rfl rfl rfl (bo g22) rfl rfl ?_
      refine RunT.xn rfl rfl rfl (bo g22) rfl rfl ?_
      refine RunT.xn rfl rfl rfl (bo g22) rfl rfl ?_
      refine RunT.xn rfl rfl rfl (bo g22) rfl rfl ?_
      refine RunT.xn rfl rfl rfl (bo g22) rfl rfl ?_
      refine RunT.xn rfl rfl rfl (bo g22) rfl rfl ?_
      refine RunT.ot0 (x := .v (.bool false)) rfl rfl rfl rfl (.pickF (bo g22) rfl) ?_
      refine RunT.ot0 (x := .v (.bool false)) rfl rfl rfl rfl (.moveX rfl) ?_
      refine RunT.xn rfl rfl rfl rfl rfl rfl ?_
      refine RunT.xn rfl rfl rfl rfl rfl rfl ?_
      refine RunT.xn rfl rfl rfl rfl rfl rfl ?_
      refine RunT.xu rfl rfl rfl rfl rfl rfl ?_
      refine RunT.xu rfl rfl rfl rfl rfl rfl ?_
      refine RunT.xu rfl rfl rfl rfl rfl rfl ?_
      refine RunT.xu rfl rfl rfl rfl rfl rfl ?_
      refine RunT.xu rfl rfl rfl rfl rfl rfl ?_
      refine RunT.xu rfl rfl rfl rfl rfl rfl ?_
      refine RunT.xn rfl rfl rfl rfl rfl rfl ?_
      refine RunT.ot0 (x := .v (.bool false)) rfl rfl rfl rfl (.pickF rfl rfl) ?_
      refine RunT.nil ?_
      refine T.condF rfl ?_
      refine T.exit ?_
      obtain rfl := si H
      exact (sub_to [] (by decide) rfl rfl (⟨⟨_, rfl, .one .v⟩, trivial⟩) (trivial))
  · have H := HO20
    refine T.seq ?_
    refine T.sub (sub_pick [9] [] (st' := ⟨[(9, .v (.int .i64 o18))], [], 8, []⟩) rfl rfl rfl rfl rfl) ?_
    refine T.region ?_
    refine RunT.ot0 (x := .v (.int .i64 o18)) rfl rfl rfl rfl (.moveX rfl) ?_
    refine RunT.ot0 (x := .v (.int .i64 o18)) rfl rfl rfl rfl (.assignX rfl) ?_
    refine RunT.nil ?_
    obtain rfl := si H
    refine T.sub (sub_to (st' := ⟨[(8, .v (.int .i64 o18))], [], 8, []⟩) [] (by decide) rfl rfl (⟨⟨_, rfl, .one .v⟩, trivial⟩) (trivial)) ?_
    refine T.ret ?_
    exact RetOk.same [.v (.int .i64 o18)] ⟨rfl, trivial⟩ rfl rfl rfl
set_option maxHeartbeats 4000000 in
theorem run_piece_pc (al : Bool) (k : Nat) (a0 : Int) (a1 : Int) (o : (List Int)) (H : run_piece k a0 a1 = some o) : PC Try.prog al 103 [.v (.int .i64 a0), .v (.int .i64 a1)] (.frs 1 (List.map eI o)) := by
  unfold run_piece at H
  refine PC.of_T Try.func103 rfl rfl (n := 19) rfl rfl (.inr (flat1_frs (sz := 1) fl_I)) ?_
  intro base B w0
  refine T.st (st' := ⟨[(0, .v (.int .i64 a0)), (1, .v (.int .i64 a1))], [], 0, []⟩) rfl ?_
  refine T.seq ?_
  refine T.region ?_
  refine RunT.ot0 (x := .v (.slice none 0 0)) rfl rfl rfl rfl (.assignX rfl) ?_
  refine RunT.nil ?_
  refine T.seq ?_
  refine T.region ?_
  refine RunT.ot0 (x := .v (.slice none 0 0)) rfl rfl rfl rfl (.assignX rfl) ?_
  refine RunT.nil ?_
  refine T.seq ?_
  refine T.seq ?_
  refine T.region ?_
  refine RunT.ot0 (x := .v (.int .i64 a1)) rfl rfl rfl rfl (.moveX rfl) ?_
  refine RunT.ot0 (x := .v (.int .i64 0)) rfl rfl rfl rfl (.moveX rfl) ?_
  refine RunT.nil ?_
  obtain ⟨o7, E8, HO9⟩ := bs H
  refine T.cutE (⟨[(5, .own 0 0 o7.length)], [(0, some (.arr false 1 (List.map eI o7)))], 8, []⟩) ?_ ?_
  · have H := E8
    refine T.block ?_
    refine T.loopS (fun n s => ∃ (v10 : (List Int)) (v11 : Int), run_piece_l0 k a0 a1 n v10 v11 = some o7 ∧ s = ⟨[(0, .v (.int .i64 a0)), (5, .own 0 0 v10.length), (7, .v (.int .i64 a1)), (8, .v (.int .i64 v11))], [(0, some (.arr false 1 (List.map eI v10)))], 8, []⟩) k ⟨_, ⟨[], 0, H, rfl⟩, sub_to [none] (by decide) rfl rfl (⟨⟨_, rfl, .one .v⟩, ⟨⟨_, rfl, .one .nilO⟩, ⟨⟨_, rfl, .one .v⟩, ⟨⟨_, rfl, .one .v⟩, trivial⟩⟩⟩⟩) (⟨⟨rfl, .inr ⟨rfl, false, _, rfl, (by decide)⟩⟩, trivial⟩)⟩ ?_
    rintro n s ⟨v10, v11, H, rfl⟩
    rcases n with _ | n
    · cases (show none = some _ from H)
    rw [run_piece_l0] at H
    refine T.seq ?_
    refine T.region ?_
    refine RunT.ot0 (x := .v (.bool (decide (v11 < a1)))) rfl rfl rfl rfl (.bin rfl rfl (fun w => b_lss w) rfl) ?_
    refine RunT.nil ?_
    refine T.seq ?_
    refine T.cond2 (t := decide (v11 < a1)) rfl (fun c12 => ?_) (fun c12 => ?_)
    · replace H := ct H c12
      refine T.skip ?_
      refine T.seq ?_
      refine T.block ?_
      refine T.seq ?_
      refine T.region ?_
      refine RunT.ot0 (x := .v (.int .i64 v11)) rfl rfl rfl rfl (.moveX rfl) ?_
      refine RunT.ot0 (x := .v (.int .i64 v11)) rfl rfl rfl rfl (.assignX rfl) ?_
      refine RunT.nil ?_
      refine T.region ?_
      refine RunT.ot0 (x := .own 0 0 v10.length) rfl rfl rfl rfl (.moveX rfl) ?_
      refine RunT.ot0 (x := .v (.int .i64 a0)) rfl rfl rfl rfl (.moveX rfl) ?_
      refine RunT.ot0 (x := .v (.int .i64 v11)) rfl rfl rfl rfl (.moveX rfl) ?_
      refine RunT.ot0 (x := .v (.int .i64 (wr (a0 + v11)))) rfl rfl rfl rfl (.bin rfl rfl (fun w => b_addw w) rfl) ?_
      refine RunT.ot1 (x := .own 8 0 (([wr (a0 + v11)]).length)) (p0 := (8, some (.arr false 1 (List.map eI [wr (a0 + v11)])))) (n' := 16) rfl rfl rfl rfl (.bslicem (d := false) (l := [wr (a0 + v11)]) (f := eI) sl23 rfl rfl rfl enc_I rfl) rfl ?_
      obtain ⟨h13, H⟩ := gs H
      refine RunT.ot2 (x := .own 16 0 ((v10 ++ [wr (a0 + v11)]).length)) (p0 := (16, some (.arr false 1 (List.map eI (v10 ++ [wr (a0 + v11)]))))) (p1 := (0, none)) (n' := 24) rfl rfl rfl rfl (.appOn (d := false) (l := v10) (m := [wr (a0 + v11)]) (f := eI) rfl sl23 rfl rfl rfl (.ownn Try.underlying23 rfl rfl (fun h => by cases h)) rfl h13) rfl ?_
      refine RunT.ot0 (x := .own 16 0 ((v10 ++ [wr (a0 + v11)]).length)) rfl rfl rfl rfl (.assignX rfl) ?_
      refine RunT.nil ?_
      refine T.sub (sub_pick [0, 5, 7, 8] [16] (st' := ⟨[(0, .v (.int .i64 a0)), (5, .own 16 0 ((v10 ++ [wr (a0 + v11)]).length)), (7, .v (.int .i64 a1)), (8, .v (.int .i64 v11))], [(16, some (.arr false 1 (List.map eI (v10 ++ [wr (a0 + v11)]))))], 24, []⟩) rfl rfl rfl rfl rfl) ?_
      refine T.region ?_
      refine RunT.ot0 (x := .v (.int .i64 (wr (v11 + 1)))) rfl rfl rfl rfl (.bin rfl rfl (fun w => b_addw w) rfl) ?_
      refine RunT.ot0 (x := .v (.int .i64 (wr (v11 + 1)))) rfl rfl rfl rfl (.moveX rfl) ?_
      refine RunT.nil ?_
      exact ⟨n, Nat.lt_succ_self n, _, ⟨v10 ++ [wr (a0 + v11)], wr (v11 + 1), H, rfl⟩, (sub_to [some 16] (by decide) rfl rfl (⟨⟨_, rfl, .one .v⟩, ⟨⟨_, rfl, .one (.own rfl)⟩, ⟨⟨_, rfl, .one .v⟩, ⟨⟨_, rfl, .one .v⟩, trivial⟩⟩⟩⟩) (⟨⟨rfl, .inl ⟨_, _, rfl, rfl, .arr rfl⟩⟩, trivial⟩))⟩
    · replace H := cf H c12
      refine T.exit ?_
      obtain rfl := si H
      exact (sub_to [some 0] (by decide) rfl rfl (⟨⟨_, rfl, .one (.own rfl)⟩, trivial⟩) (⟨⟨rfl, .inl ⟨_, _, rfl, rfl, .arr rfl⟩⟩, trivial⟩))
  · intro s hS
    have H := HO9
    refine T.sub hS ?_
    refine T.seq ?_
    refine T.region ?_
    refine RunT.ot0 (x := .own 0 0 o7.length) rfl rfl rfl rfl (.moveX rfl) ?_
    refine RunT.ot0 (x := .own 0 0 o7.length) rfl rfl rfl rfl (.assignX rfl) ?_
    refine RunT.nil ?_
    obtain rfl := si H
    refine T.sub (sub_to (st' := ⟨[(4, .own 0 0 ((List.map eI o7).length))], [(0, some (.arr false 1 (List.map eI o7)))], 8, []⟩) [some 0] (by decide) rfl rfl (⟨⟨_, rfl, .one (.own' rfl (List.length_map _).symm)⟩, trivial⟩) (⟨⟨rfl, .inl ⟨_, _, rfl, rfl, .arr rfl⟩⟩, trivial⟩)) ?_
    refine T.ret ?_
    exact RetOk.same [.own 0 0 ((List.map eI o7).length)] ⟨rfl, trivial⟩ rfl rfl rfl
set_option maxHeartbeats 4000000 in
theorem run_Take_pc (al : Bool) (k : Nat) (a0 : Venue) (a1 : (List Bool)) (a2 : Int) (a3 : Int) (o : (List Int) × Bool) (H : run_Take k a0 a1 a2 a3 = some o) : PC Try.prog al 97 [.agg [.lst (List.map eSeat a0.Seats), .v (.int .i64 a0.Gap), .v (.int .i64 a0.Radius), .lst (List.map eI a0.Kills), .lst (List.map ePole a0.Poles)], .lst (List.map eB a1), .v (.int .i64 a2), .v (.int .i64 a3)] (.tup [.frs 1 (List.map eI o.1), .v (.bool o.2)]) := by
  unfold run_Take at H
  refine PC.of_T Try.func97 rfl rfl (n := 31) rfl rfl (.inr (flatT_tup ⟨(flat1_frs (sz := 1) fl_I), rfl, trivial⟩)) ?_
  intro base B w0
  refine T.st (st' := ⟨[(0, .agg [.lst (List.map eSeat a0.Seats), .v (.int .i64 a0.Gap), .v (.int .i64 a0.Radius), .lst (List.map eI a0.Kills), .lst (List.map ePole a0.Poles)]), (1, .lst (List.map eB a1)), (2, .v (.int .i64 a2)), (3, .v (.int .i64 a3))], [], 0, []⟩) rfl ?_
  refine T.seq ?_
  refine T.region ?_
  refine RunT.ot1 (x := .ptr 0 0) (p0 := (0, some (.box [.lst (List.map eSeat a0.Seats), .v (.int .i64 a0.Gap), .v (.int .i64 a0.Radius), .lst (List.map eI a0.Kills), .lst (List.map ePole a0.Poles)]))) (n' := 8) rfl rfl rfl rfl (.boxX rfl rfl rfl) rfl ?_
  refine RunT.ot0 (x := .v (.slice none 0 0)) rfl rfl rfl rfl (.assignX rfl) ?_
  refine RunT.ot0 (x := .v (.bool false)) rfl rfl rfl rfl (.assignX rfl) ?_
  refine RunT.nil ?_
  refine T.seq ?_
  refine T.seq ?_
  refine T.region ?_
  refine RunT.ot0 (x := .v (.int .i64 a3)) rfl rfl rfl rfl (.moveX rfl) ?_
  refine RunT.ot0 (x := .v (.bool (decide (a3 < 1)))) rfl rfl rfl rfl (.bin rfl rfl (fun w => b_lss w) rfl) ?_
  refine RunT.ot0 (x := .v (.bool (decide (a3 < 1)))) rfl rfl rfl rfl (.moveX rfl) ?_
  refine RunT.cases (t := 12) (c := decide (a3 < 1)) rfl (fun g1 => ?_) (fun g1 => ?_)
  · replace H := ct H g1
    refine RunT.xn rfl rfl rfl (bo g1) rfl rfl ?_
    refine RunT.xn rfl rfl rfl (bo g1) rfl rfl ?_
    refine RunT.xn rfl rfl rfl (bo g1) rfl rfl ?_
    refine RunT.xn rfl rfl rfl (bo g1) rfl rfl ?_
    refine RunT.xn rfl rfl rfl (bo g1) rfl rfl ?_
    refine RunT.ot0 (x := .v (.bool true)) rfl rfl rfl rfl (.pickT (bo g1) rfl) ?_
    refine RunT.ot0 (x := .v (.bool true)) rfl rfl rfl rfl (.moveX rfl) ?_
    refine RunT.xn rfl rfl rfl rfl rfl rfl ?_
    refine RunT.xn rfl rfl rfl rfl rfl rfl ?_
    refine RunT.xn rfl rfl rfl rfl rfl rfl ?_
    refine RunT.xn rfl rfl rfl rfl rfl rfl ?_
    refine RunT.xn rfl rfl rfl rfl rfl rfl ?_
    refine RunT.xn rfl rfl rfl rfl rfl rfl ?_
    refine RunT.xn rfl rfl rfl rfl rfl rfl ?_
    refine RunT.ot0 (x := .v (.bool true)) rfl rfl rfl rfl (.pickT rfl rfl) ?_
    refine RunT.nil ?_
    refine T.condT rfl ?_
    refine T.seq ?_
    refine T.region ?_
    refine RunT.ot0 (x := .v (.slice none 0 0)) rfl rfl rfl rfl (.assignX rfl) ?_
    refine RunT.ot0 (x := .v (.bool false)) rfl rfl rfl rfl (.assignX rfl) ?_
    refine RunT.nil ?_
    obtain rfl := si H
    refine T.sub (sub_to (st' := ⟨[(8, .own 0 0 0), (9, .v (.bool false))], [(0, some (.arr false 1 (List.map eI [])))], 8, []⟩) [none] (by decide) rfl rfl (⟨⟨_, rfl, .one .nilO⟩, ⟨⟨_, rfl, .one .v⟩, trivial⟩⟩) (⟨⟨rfl, .inr ⟨rfl, false, _, rfl, (by decide)⟩⟩, trivial⟩)) ?_
    refine T.ret ?_
    exact RetOk.same [.own 0 0 0, .v (.bool false)] ⟨rfl, rfl, trivial⟩ rfl rfl rfl
  · replace H := cf H g1
    refine RunT.gt0 (x := .v (.int .i64 a3)) rfl rfl rfl (bo g1) rfl rfl (.moveX rfl) ?_
    refine RunT.gt0 (x := .ptr 0 0) rfl rfl rfl (bo g1) rfl rfl (.fieldPX fl26_0 rfl rfl) ?_
    refine RunT.gt0 (x := .lst (List.map eSeat a0.Seats)) rfl rfl rfl (bo g1) rfl rfl (.loadP ty22 rfl rfl rfl) ?_
    refine RunT.gt0 (x := .v (.int .i64 (a0.Seats.length : Int))) rfl rfl rfl (bo g1) rfl rfl (.lenLm Try.underlying22 rfl rfl) ?_
    refine RunT.gt0 (x := .v (.bool (decide ((a0.Seats.length : Int) < a3)))) rfl rfl rfl (bo g1) rfl rfl (.bin rfl rfl (fun w => b_gtr w) rfl) ?_
    refine RunT.ot0 (x := .v (.bool (decide ((a0.Seats.length : Int) < a3)))) rfl rfl rfl rfl (.pickF (bo g1) rfl) ?_
    refine RunT.ot0 (x := .v (.bool (decide ((a0.Seats.length : Int) < a3)))) rfl rfl rfl rfl (.moveX rfl) ?_
    refine RunT.cases (t := 19) (c := decide ((a0.Seats.length : Int) < a3)) rfl (fun g2 => ?_) (fun g2 => ?_)
    · replace H := ct H g2
      refine RunT.xn rfl rfl rfl (bo g2) rfl rfl ?_
      refine RunT.xn rfl rfl rfl (bo g2) rfl rfl ?_
      refine RunT.xn rfl rfl rfl (bo g2) rfl rfl ?_
      refine RunT.xn rfl rfl rfl (bo g2) rfl rfl ?_
      refine RunT.xn rfl rfl rfl (bo g2) rfl rfl ?_
      refine RunT.xn rfl rfl rfl (bo g2) rfl rfl ?_
      refine RunT.xn rfl rfl rfl (bo g2) rfl rfl ?_
      refine RunT.ot0 (x := .v (.bool true)) rfl rfl rfl rfl (.pickT (bo g2) rfl) ?_
      refine RunT.nil ?_
      refine T.condT rfl ?_
      refine T.seq ?_
      refine T.sub (sub_pick [] [] (st' := ⟨[], [], 8, []⟩) rfl rfl rfl rfl rfl) ?_
      refine T.region ?_
      refine RunT.ot0 (x := .v (.slice none 0 0)) rfl rfl rfl rfl (.assignX rfl) ?_
      refine RunT.ot0 (x := .v (.bool false)) rfl rfl rfl rfl (.assignX rfl) ?_
      refine RunT.nil ?_
      obtain rfl := si H
      refine T.sub (sub_to (st' := ⟨[(8, .own 0 0 0), (9, .v (.bool false))], [(0, some (.arr false 1 (List.map eI [])))], 8, []⟩) [none] (by decide) rfl rfl (⟨⟨_, rfl, .one .nilO⟩, ⟨⟨_, rfl, .one .v⟩, trivial⟩⟩) (⟨⟨rfl, .inr ⟨rfl, false, _, rfl, (by decide)⟩⟩, trivial⟩)) ?_
      refine T.ret ?_
      exact RetOk.same [.own 0 0 0, .v (.bool false)] ⟨rfl, rfl, trivial⟩ rfl rfl rfl
    · replace H := cf H g2
      refine RunT.gt0 (x := .agg [.lst (List.map eSeat a0.Seats), .v (.int .i64 a0.Gap), .v (.int .i64 a0.Radius), .lst (List.map eI a0.Kills), .lst (List.map ePole a0.Poles)]) rfl rfl rfl (bo g2) rfl rfl (.loadP ty26 rfl rfl rfl) ?_
      refine RunT.gt0 (x := .lst (List.map eB a1)) rfl rfl rfl (bo g2) rfl rfl (.moveX rfl) ?_
      refine RunT.gt0 (x := .v (.int .i64 a2)) rfl rfl rfl (bo g2) rfl rfl (.moveX rfl) ?_
      refine RunT.gt0 (x := .v (.int .i64 a3)) rfl rfl rfl (bo g2) rfl rfl (.moveX rfl) ?_
      obtain ⟨r3, h4, H⟩ := bs H
      refine RunT.gt0 (x := .v (.int .i64 r3)) rfl rfl rfl (bo g2) rfl rfl (.callp (run_long_pc false k a0 a1 a2 a3 r3 h4) rfl ⟨(.agg' ⟨.lst, .v, .v, .lst, .lst, trivial⟩), (.one .lst), (.one .v), (.one .v), trivial⟩ rfl rfl rfl) ?_
      refine RunT.gt0 (x := .v (.int .i64 a3)) rfl rfl rfl (bo g2) rfl rfl (.moveX rfl) ?_
      refine RunT.gt0 (x := .v (.bool (decide (r3 < a3)))) rfl rfl rfl (bo g2) rfl rfl (.bin rfl rfl (fun w => b_lss w) rfl) ?_
      refine RunT.ot0 (x := .v (.bool (decide (r3 < a3)))) rfl rfl rfl rfl (.pickF (bo g2) rfl) ?_
      refine RunT.nil ?_
      refine T.cond2 (t := decide (r3 < a3)) rfl (fun c5 => ?_) (fun c5 => ?_)
      · replace H := ct H c5
        refine T.seq ?_
        refine T.region ?_
        refine RunT.ot0 (x := .v (.slice none 0 0)) rfl rfl rfl rfl (.assignX rfl) ?_
        refine RunT.ot0 (x := .v (.bool false)) rfl rfl rfl rfl (.assignX rfl) ?_
        refine RunT.nil ?_
        obtain rfl := si H
        refine T.sub (sub_to (st' := ⟨[(8, .own 0 0 0), (9, .v (.bool false))], [(0, some (.arr false 1 (List.map eI [])))], 8, []⟩) [none] (by decide) rfl rfl (⟨⟨_, rfl, .one .nilO⟩, ⟨⟨_, rfl, .one .v⟩, trivial⟩⟩) (⟨⟨rfl, .inr ⟨rfl, false, _, rfl, (by decide)⟩⟩, trivial⟩)) ?_
        refine T.ret ?_
        exact RetOk.same [.own 0 0 0, .v (.bool false)] ⟨rfl, rfl, trivial⟩ rfl rfl rfl
      · replace H := cf H c5
        refine T.skip ?_
        refine T.seq ?_
        refine T.region ?_
        refine RunT.ot0 (x := .v (.int .i64 a2)) rfl rfl rfl rfl (.moveX rfl) ?_
        refine RunT.ot0 (x := .v (.int .i64 a3)) rfl rfl rfl rfl (.moveX rfl) ?_
        obtain ⟨r6, h7, H⟩ := bs H
        refine RunT.ot1 (x := .own 8 0 ((List.map eI r6).length)) (p0 := (8, some (.arr false 1 (List.map eI r6)))) (n' := 16) rfl rfl rfl rfl (.callp (run_piece_pc false k a2 a3 r6 h7) rfl ⟨(.one .v), (.one .v), trivial⟩ rfl rfl rfl) rfl ?_
        refine RunT.ot0 (x := .own 8 0 ((List.map eI r6).length)) rfl rfl rfl rfl (.assignX rfl) ?_
        refine RunT.ot0 (x := .v (.bool true)) rfl rfl rfl rfl (.assignX rfl) ?_
        refine RunT.nil ?_
        obtain rfl := si H
        refine T.sub (sub_to (st' := ⟨[(8, .own 0 0 ((List.map eI r6).length)), (9, .v (.bool true))], [(0, some (.arr false 1 (List.map eI r6)))], 8, []⟩) [some 8] (by decide) rfl rfl (⟨⟨_, rfl, .one (.own' rfl ((List.length_map _).trans (List.length_map _).symm))⟩, ⟨⟨_, rfl, .one .v⟩, trivial⟩⟩) (⟨⟨rfl, .inl ⟨_, _, rfl, rfl, .arr rfl⟩⟩, trivial⟩)) ?_
        refine T.ret ?_
        exact RetOk.same [.own 0 0 ((List.map eI r6).length), .v (.bool true)] ⟨rfl, rfl, trivial⟩ rfl rfl rfl
set_option maxHeartbeats 4000000 in
theorem run_Of_pc (al : Bool) (k : Nat) (a0 : Venue) (a1 : (List Bool)) (a2 : Int) (a3 : Int) (o : (List Int) × Bool) (H : run_Of k a0 a1 a2 a3 = some o) : PC Try.prog al 42 [.agg [.lst (List.map eSeat a0.Seats), .v (.int .i64 a0.Gap), .v (.int .i64 a0.Radius), .lst (List.map eI a0.Kills), .lst (List.map ePole a0.Poles)], .lst (List.map eB a1), .v (.int .i64 a2), .v (.int .i64 a3)] (.tup [.frs 1 (List.map eI o.1), .v (.bool o.2)]) := by
  unfold run_Of at H
  refine PC.of_T Try.func42 rfl rfl (n := 20) rfl rfl (.inr (flatT_tup ⟨(flat1_frs (sz := 1) fl_I), rfl, trivial⟩)) ?_
  intro base B w0
  refine T.st (st' := ⟨[(0, .agg [.lst (List.map eSeat a0.Seats), .v (.int .i64 a0.Gap), .v (.int .i64 a0.Radius), .lst (List.map eI a0.Kills), .lst (List.map ePole a0.Poles)]), (1, .lst (List.map eB a1)), (2, .v (.int .i64 a2)), (3, .v (.int .i64 a3))], [], 0, []⟩) rfl ?_
  refine T.seq ?_
  refine T.region ?_
  refine RunT.ot1 (x := .ptr 0 0) (p0 := (0, some (.box [.lst (List.map eSeat a0.Seats), .v (.int .i64 a0.Gap), .v (.int .i64 a0.Radius), .lst (List.map eI a0.Kills), .lst (List.map ePole a0.Poles)]))) (n' := 8) rfl rfl rfl rfl (.boxX rfl rfl rfl) rfl ?_
  refine RunT.ot0 (x := .v (.slice none 0 0)) rfl rfl rfl rfl (.assignX rfl) ?_
  refine RunT.ot0 (x := .v (.bool false)) rfl rfl rfl rfl (.assignX rfl) ?_
  refine RunT.nil ?_
  refine T.seq ?_
  refine T.seq ?_
  refine T.region ?_
  refine RunT.ot0 (x := .agg [.lst (List.map eSeat a0.Seats), .v (.int .i64 a0.Gap), .v (.int .i64 a0.Radius), .lst (List.map eI a0.Kills), .lst (List.map ePole a0.Poles)]) rfl rfl rfl rfl (.loadP ty26 rfl rfl rfl) ?_
  obtain ⟨r1, h2, H⟩ := bs H
  refine RunT.ot0 (x := .v (.bool r1)) rfl rfl rfl rfl (.callp (venue_May_pc false k a0 r1 h2) rfl ⟨(.agg' ⟨.lst, .v, .v, .lst, .lst, trivial⟩), trivial⟩ rfl rfl rfl) ?_
  refine RunT.ot0 (x := .v (.bool (!r1))) rfl rfl rfl rfl (.un rfl (fun w => u_not w) rfl) ?_
  refine RunT.nil ?_
  refine T.cond2 (t := !r1) rfl (fun c3 => ?_) (fun c3 => ?_)
  · replace H := ct H c3
    refine T.seq ?_
    refine T.region ?_
    refine RunT.ot0 (x := .v (.slice none 0 0)) rfl rfl rfl rfl (.assignX rfl) ?_
    refine RunT.ot0 (x := .v (.bool false)) rfl rfl rfl rfl (.assignX rfl) ?_
    refine RunT.nil ?_
    obtain rfl := si H
    refine T.sub (sub_to (st' := ⟨[(8, .own 0 0 0), (9, .v (.bool false))], [(0, some (.arr false 1 (List.map eI [])))], 8, []⟩) [none] (by decide) rfl rfl (⟨⟨_, rfl, .one .nilO⟩, ⟨⟨_, rfl, .one .v⟩, trivial⟩⟩) (⟨⟨rfl, .inr ⟨rfl, false, _, rfl, (by decide)⟩⟩, trivial⟩)) ?_
    refine T.ret ?_
    exact RetOk.same [.own 0 0 0, .v (.bool false)] ⟨rfl, rfl, trivial⟩ rfl rfl rfl
  · replace H := cf H c3
    refine T.skip ?_
    refine T.seq ?_
    refine T.region ?_
    refine RunT.ot0 (x := .agg [.lst (List.map eSeat a0.Seats), .v (.int .i64 a0.Gap), .v (.int .i64 a0.Radius), .lst (List.map eI a0.Kills), .lst (List.map ePole a0.Poles)]) rfl rfl rfl rfl (.loadP ty26 rfl rfl rfl) ?_
    refine RunT.ot0 (x := .lst (List.map eB a1)) rfl rfl rfl rfl (.moveX rfl) ?_
    refine RunT.ot0 (x := .v (.int .i64 a2)) rfl rfl rfl rfl (.moveX rfl) ?_
    refine RunT.ot0 (x := .v (.int .i64 a3)) rfl rfl rfl rfl (.moveX rfl) ?_
    obtain ⟨r4, h5, H⟩ := bs H
    refine RunT.ot1 (x := .tup [.own 8 0 ((List.map eI r4.1).length), .v (.bool r4.2)]) (p0 := (8, some (.arr false 1 (List.map eI r4.1)))) (n' := 16) rfl rfl rfl rfl (.callp (run_Take_pc false k a0 a1 a2 a3 r4 h5) rfl ⟨(.agg' ⟨.lst, .v, .v, .lst, .lst, trivial⟩), (.one .lst), (.one .v), (.one .v), trivial⟩ rfl rfl rfl) rfl ?_
    refine RunT.ot0 (x := .own 8 0 ((List.map eI r4.1).length)) rfl rfl rfl rfl (.extract rfl rfl) ?_
    refine RunT.ot0 (x := .v (.bool r4.2)) rfl rfl rfl rfl (.extract rfl rfl) ?_
    refine RunT.ot0 (x := .own 8 0 ((List.map eI r4.1).length)) rfl rfl rfl rfl (.assignX rfl) ?_
    refine RunT.ot0 (x := .v (.bool r4.2)) rfl rfl rfl rfl (.assignX rfl) ?_
    refine RunT.nil ?_
    obtain rfl := si H
    refine T.sub (sub_to (st' := ⟨[(8, .own 0 0 ((List.map eI r4.1).length)), (9, .v (.bool r4.2))], [(0, some (.arr false 1 (List.map eI r4.1)))], 8, []⟩) [some 8] (by decide) rfl rfl (⟨⟨_, rfl, .one (.own' rfl ((List.length_map _).trans (List.length_map _).symm))⟩, ⟨⟨_, rfl, .one .v⟩, trivial⟩⟩) (⟨⟨rfl, .inl ⟨_, _, rfl, rfl, .arr rfl⟩⟩, trivial⟩)) ?_
    refine T.ret ?_
    exact RetOk.same [.own 0 0 ((List.map eI r4.1).length), .v (.bool r4.2)] ⟨rfl, rfl, trivial⟩ rfl rfl rfl
set_option maxHeartbeats 4000000 in
theorem run_Next_pc (al : Bool) (k : Nat) (a0 : Venue) (a1 : Int) (o : Bool) (H : run_Next k a0 a1 = some o) : PC Try.prog al 44 [.agg [.lst (List.map eSeat a0.Seats), .v (.int .i64 a0.Gap), .v (.int .i64 a0.Radius), .lst (List.map eI a0.Kills), .lst (List.map ePole a0.Poles)], .v (.int .i64 a1)] (.v (.bool o)) := by
  unfold run_Next at H
  refine PC.of_T Try.func44 rfl rfl (n := 12) rfl rfl (.inr rfl) ?_
  intro base B w0
  refine T.st (st' := ⟨[(0, .agg [.lst (List.map eSeat a0.Seats), .v (.int .i64 a0.Gap), .v (.int .i64 a0.Radius), .lst (List.map eI a0.Kills), .lst (List.map ePole a0.Poles)]), (1, .v (.int .i64 a1))], [], 0, []⟩) rfl ?_
  refine T.seq ?_
  refine T.region ?_
  refine RunT.ot1 (x := .ptr 0 0) (p0 := (0, some (.box [.lst (List.map eSeat a0.Seats), .v (.int .i64 a0.Gap), .v (.int .i64 a0.Radius), .lst (List.map eI a0.Kills), .lst (List.map ePole a0.Poles)]))) (n' := 8) rfl rfl rfl rfl (.boxX rfl rfl rfl) rfl ?_
  refine RunT.ot0 (x := .v (.bool false)) rfl rfl rfl rfl (.assignX rfl) ?_
  refine RunT.nil ?_
  refine T.seq ?_
  refine T.region ?_
  refine RunT.ot0 (x := .agg [.lst (List.map eSeat a0.Seats), .v (.int .i64 a0.Gap), .v (.int .i64 a0.Radius), .lst (List.map eI a0.Kills), .lst (List.map ePole a0.Poles)]) rfl rfl rfl rfl (.loadP ty26 rfl rfl rfl) ?_
  obtain ⟨r1, h2, H⟩ := bs H
  refine RunT.ot0 (x := .v (.bool r1)) rfl rfl rfl rfl (.callp (venue_May_pc false k a0 r1 h2) rfl ⟨(.agg' ⟨.lst, .v, .v, .lst, .lst, trivial⟩), trivial⟩ rfl rfl rfl) ?_
  refine RunT.ot0 (x := .v (.bool r1)) rfl rfl rfl rfl (.moveX rfl) ?_
  refine RunT.cases (t := 7) (c := r1) rfl (fun g3 => ?_) (fun g3 => ?_)
  · replace H := ct H g3
    refine RunT.gt0 (x := .agg [.lst (List.map eSeat a0.Seats), .v (.int .i64 a0.Gap), .v (.int .i64 a0.Radius), .lst (List.map eI a0.Kills), .lst (List.map ePole a0.Poles)]) rfl rfl rfl (bo g3) rfl rfl (.loadP ty26 rfl rfl rfl) ?_
    refine RunT.gt0 (x := .v (.int .i64 a1)) rfl rfl rfl (bo g3) rfl rfl (.moveX rfl) ?_
    obtain ⟨r4, h5, H⟩ := bs H
    refine RunT.gt0 (x := .v (.bool r4)) rfl rfl rfl (bo g3) rfl rfl (.callp (run_next_pc false k a0 a1 r4 h5) rfl ⟨(.agg' ⟨.lst, .v, .v, .lst, .lst, trivial⟩), (.one .v), trivial⟩ rfl rfl rfl) ?_
    refine RunT.ot0 (x := .v (.bool r4)) rfl rfl rfl rfl (.pickT (bo g3) rfl) ?_
    refine RunT.ot0 (x := .v (.bool r4)) rfl rfl rfl rfl (.assignX rfl) ?_
    refine RunT.nil ?_
    obtain rfl := si H
    refine T.sub (sub_to (st' := ⟨[(4, .v (.bool r4))], [], 8, []⟩) [] (by decide) rfl rfl (⟨⟨_, rfl, .one .v⟩, trivial⟩) (trivial)) ?_
    refine T.ret ?_
    exact RetOk.same [.v (.bool r4)] ⟨rfl, trivial⟩ rfl rfl rfl
  · replace H := cf H g3
    refine RunT.xn rfl rfl rfl (bo g3) rfl rfl ?_
    refine RunT.xn rfl rfl rfl (bo g3) rfl rfl ?_
    refine RunT.xn rfl rfl rfl (bo g3) rfl rfl ?_
    refine RunT.ot0 (x := .v (.bool false)) rfl rfl rfl rfl (.pickF (bo g3) rfl) ?_
    refine RunT.ot0 (x := .v (.bool false)) rfl rfl rfl rfl (.assignX rfl) ?_
    refine RunT.nil ?_
    obtain rfl := si H
    refine T.sub (sub_to (st' := ⟨[(4, .v (.bool false))], [], 8, []⟩) [] (by decide) rfl rfl (⟨⟨_, rfl, .one .v⟩, trivial⟩) (trivial)) ?_
    refine T.ret ?_
    exact RetOk.same [.v (.bool false)] ⟨rfl, trivial⟩ rfl rfl rfl
set_option maxHeartbeats 4000000 in
theorem run_Long_pc (al : Bool) (k : Nat) (a0 : Venue) (a1 : (List Bool)) (a2 : Int) (o : Int) (H : run_Long k a0 a1 a2 = some o) : PC Try.prog al 46 [.agg [.lst (List.map eSeat a0.Seats), .v (.int .i64 a0.Gap), .v (.int .i64 a0.Radius), .lst (List.map eI a0.Kills), .lst (List.map ePole a0.Poles)], .lst (List.map eB a1), .v (.int .i64 a2)] (.v (.int .i64 o)) := by
  unfold run_Long at H
  refine PC.of_T Try.func46 rfl rfl (n := 17) rfl rfl (.inr rfl) ?_
  intro base B w0
  refine T.st (st' := ⟨[(0, .agg [.lst (List.map eSeat a0.Seats), .v (.int .i64 a0.Gap), .v (.int .i64 a0.Radius), .lst (List.map eI a0.Kills), .lst (List.map ePole a0.Poles)]), (1, .lst (List.map eB a1)), (2, .v (.int .i64 a2))], [], 0, []⟩) rfl ?_
  refine T.seq ?_
  refine T.region ?_
  refine RunT.ot1 (x := .ptr 0 0) (p0 := (0, some (.box [.lst (List.map eSeat a0.Seats), .v (.int .i64 a0.Gap), .v (.int .i64 a0.Radius), .lst (List.map eI a0.Kills), .lst (List.map ePole a0.Poles)]))) (n' := 8) rfl rfl rfl rfl (.boxX rfl rfl rfl) rfl ?_
  refine RunT.ot0 (x := .v (.int .i64 0)) rfl rfl rfl rfl (.assignX rfl) ?_
  refine RunT.nil ?_
  refine T.seq ?_
  refine T.seq ?_
  refine T.region ?_
  refine RunT.ot0 (x := .agg [.lst (List.map eSeat a0.Seats), .v (.int .i64 a0.Gap), .v (.int .i64 a0.Radius), .lst (List.map eI a0.Kills), .lst (List.map ePole a0.Poles)]) rfl rfl rfl rfl (.loadP ty26 rfl rfl rfl) ?_
  obtain ⟨r1, h2, H⟩ := bs H
  refine RunT.ot0 (x := .v (.bool r1)) rfl rfl rfl rfl (.callp (venue_May_pc false k a0 r1 h2) rfl ⟨(.agg' ⟨.lst, .v, .v, .lst, .lst, trivial⟩), trivial⟩ rfl rfl rfl) ?_
  refine RunT.ot0 (x := .v (.bool (!r1))) rfl rfl rfl rfl (.un rfl (fun w => u_not w) rfl) ?_
  refine RunT.nil ?_
  refine T.cond2 (t := !r1) rfl (fun c3 => ?_) (fun c3 => ?_)
  · replace H := ct H c3
    refine T.seq ?_
    refine T.region ?_
    refine RunT.ot0 (x := .v (.int .i64 0)) rfl rfl rfl rfl (.assignX rfl) ?_
    refine RunT.nil ?_
    obtain rfl := si H
    refine T.sub (sub_to (st' := ⟨[(6, .v (.int .i64 0))], [], 8, []⟩) [] (by decide) rfl rfl (⟨⟨_, rfl, .one .v⟩, trivial⟩) (trivial)) ?_
    refine T.ret ?_
    exact RetOk.same [.v (.int .i64 0)] ⟨rfl, trivial⟩ rfl rfl rfl
  · replace H := cf H c3
    refine T.skip ?_
    refine T.seq ?_
    refine T.region ?_
    refine RunT.ot0 (x := .agg [.lst (List.map eSeat a0.Seats), .v (.int .i64 a0.Gap), .v (.int .i64 a0.Radius), .lst (List.map eI a0.Kills), .lst (List.map ePole a0.Poles)]) rfl rfl rfl rfl (.loadP ty26 rfl rfl rfl) ?_
    refine RunT.ot0 (x := .lst (List.map eB a1)) rfl rfl rfl rfl (.moveX rfl) ?_
    refine RunT.ot0 (x := .v (.int .i64 a2)) rfl rfl rfl rfl (.moveX rfl) ?_
    refine RunT.ot0 (x := .ptr 0 0) rfl rfl rfl rfl (.fieldPX fl26_0 rfl rfl) ?_
    refine RunT.ot0 (x := .lst (List.map eSeat a0.Seats)) rfl rfl rfl rfl (.loadP ty22 rfl rfl rfl) ?_
    refine RunT.ot0 (x := .v (.int .i64 (a0.Seats.length : Int))) rfl rfl rfl rfl (.lenLm Try.underlying22 rfl rfl) ?_
    obtain ⟨r4, h5, H⟩ := bs H
    refine RunT.ot0 (x := .v (.int .i64 r4)) rfl rfl rfl rfl (.callp (run_long_pc false k a0 a1 a2 (a0.Seats.length : Int) r4 h5) rfl ⟨(.agg' ⟨.lst, .v, .v, .lst, .lst, trivial⟩), (.one .lst), (.one .v), (.one .v), trivial⟩ rfl rfl rfl) ?_
    refine RunT.ot0 (x := .v (.int .i64 r4)) rfl rfl rfl rfl (.assignX rfl) ?_
    refine RunT.nil ?_
    obtain rfl := si H
    refine T.sub (sub_to (st' := ⟨[(6, .v (.int .i64 r4))], [], 8, []⟩) [] (by decide) rfl rfl (⟨⟨_, rfl, .one .v⟩, trivial⟩) (trivial)) ?_
    refine T.ret ?_
    exact RetOk.same [.v (.int .i64 r4)] ⟨rfl, trivial⟩ rfl rfl rfl
set_option maxHeartbeats 4000000 in
theorem run_Runs_pc (k : Nat) (a0 : Venue) (a1 : (List Bool)) (o : (List (List Int))) (H : run_Runs k a0 a1 = some o) : PC Try.prog true 49 [.agg [.lst (List.map eSeat a0.Seats), .v (.int .i64 a0.Gap), .v (.int .i64 a0.Radius), .lst (List.map eI a0.Kills), .lst (List.map ePole a0.Poles)], .lst (List.map eB a1)] (.frs 1 (List.map eLI o)) := by
  unfold run_Runs at H
  refine PC.of_T Try.func49 rfl rfl (n := 36) rfl rfl (.inl rfl) ?_
  intro base B w0
  refine T.st (st' := ⟨[(0, .agg [.lst (List.map eSeat a0.Seats), .v (.int .i64 a0.Gap), .v (.int .i64 a0.Radius), .lst (List.map eI a0.Kills), .lst (List.map ePole a0.Poles)]), (1, .lst (List.map eB a1))], [], 0, []⟩) rfl ?_
  refine T.seq ?_
  refine T.region ?_
  refine RunT.ot1 (x := .ptr 0 0) (p0 := (0, some (.box [.lst (List.map eSeat a0.Seats), .v (.int .i64 a0.Gap), .v (.int .i64 a0.Radius), .lst (List.map eI a0.Kills), .lst (List.map ePole a0.Poles)]))) (n' := 8) rfl rfl rfl rfl (.boxX rfl rfl rfl) rfl ?_
  refine RunT.ot0 (x := .v (.slice none 0 0)) rfl rfl rfl rfl (.assignX rfl) ?_
  refine RunT.nil ?_
  refine T.seq ?_
  refine T.seq ?_
  refine T.region ?_
  refine RunT.ot0 (x := .agg [.lst (List.map eSeat a0.Seats), .v (.int .i64 a0.Gap), .v (.int .i64 a0.Radius), .lst (List.map eI a0.Kills), .lst (List.map ePole a0.Poles)]) rfl rfl rfl rfl (.loadP ty26 rfl rfl rfl) ?_
  obtain ⟨r1, h2, H⟩ := bs H
  refine RunT.ot0 (x := .v (.bool r1)) rfl rfl rfl rfl (.callp (venue_May_pc false k a0 r1 h2) rfl ⟨(.agg' ⟨.lst, .v, .v, .lst, .lst, trivial⟩), trivial⟩ rfl rfl rfl) ?_
  refine RunT.ot0 (x := .v (.bool (!r1))) rfl rfl rfl rfl (.un rfl (fun w => u_not w) rfl) ?_
  refine RunT.nil ?_
  refine T.cond2 (t := !r1) rfl (fun c3 => ?_) (fun c3 => ?_)
  · replace H := ct H c3
    refine T.seq ?_
    refine T.region ?_
    refine RunT.ot0 (x := .v (.slice none 0 0)) rfl rfl rfl rfl (.assignX rfl) ?_
    refine RunT.nil ?_
    obtain rfl := si H
    refine T.sub (sub_to (st' := ⟨[(4, .own 0 0 0)], [(0, some (.arr false 1 (List.map eLI [])))], 8, []⟩) [none] (by decide) rfl rfl (⟨⟨_, rfl, .one .nilO⟩, trivial⟩) (⟨⟨rfl, .inr ⟨rfl, false, _, rfl, (by decide)⟩⟩, trivial⟩)) ?_
    refine T.ret ?_
    exact RetOk.same [.own 0 0 0] ⟨rfl, trivial⟩ rfl rfl rfl
  · replace H := cf H c3
    refine T.skip ?_
    refine T.seq ?_
    refine T.region ?_
    refine RunT.ot0 (x := .v (.slice none 0 0)) rfl rfl rfl rfl (.assignX rfl) ?_
    refine RunT.nil ?_
    refine T.seq ?_
    refine T.seq ?_
    refine T.region ?_
    refine RunT.ot0 (x := .v (.int .i64 0)) rfl rfl rfl rfl (.assignX rfl) ?_
    refine RunT.nil ?_
    obtain ⟨o20, E21, HO22⟩ := bs H
    refine T.cutE (⟨[(5, .own 0 0 o20.length)], [(0, some (.arr false 1 (List.map eLI o20)))], 8, []⟩) ?_ ?_
    · have H := E21
      refine T.block ?_
      refine T.loopS (fun n s => ∃ (v23 : (List (List Int))) (v24 : Int), run_Runs_l0 k a0 a1 n v23 v24 = some o20 ∧ s = ⟨[(1, .lst (List.map eB a1)), (2, .ptr 0 0), (5, .own 1 0 v23.length), (6, .v (.int .i64 v24))], [(0, some (.box [.lst (List.map eSeat a0.Seats), .v (.int .i64 a0.Gap), .v (.int .i64 a0.Radius), .lst (List.map eI a0.Kills), .lst (List.map ePole a0.Poles)])), (1, some (.arr false 1 (List.map eLI v23)))], 8, []⟩) k ⟨_, ⟨[], 0, H, rfl⟩, sub_to [some 0, none] (by decide) rfl rfl (⟨⟨_, rfl, .one .lst⟩, ⟨⟨_, rfl, .one (.ptr rfl)⟩, ⟨⟨_, rfl, .one .nilO⟩, ⟨⟨_, rfl, .one .v⟩, trivial⟩⟩⟩⟩) (⟨⟨rfl, .inl ⟨_, _, rfl, rfl, .box ⟨.lst, .v, .v, .lst, .lst, trivial⟩⟩⟩, ⟨⟨rfl, .inr ⟨rfl, false, _, rfl, (by decide)⟩⟩, trivial⟩⟩)⟩ ?_
      rintro n s ⟨v23, v24, H, rfl⟩
      rcases n with _ | n
      · cases (show none = some _ from H)
      rw [run_Runs_l0] at H
      refine T.seq ?_
      refine T.seq ?_
      refine T.region ?_
      refine RunT.ot0 (x := .v (.int .i64 v24)) rfl rfl rfl rfl (.moveX rfl) ?_
      refine RunT.ot0 (x := .ptr 0 0) rfl rfl rfl rfl (.fieldPX fl26_0 rfl rfl) ?_
      refine RunT.ot0 (x := .lst (List.map eSeat a0.Seats)) rfl rfl rfl rfl (.loadP ty22 rfl rfl rfl) ?_
      refine RunT.ot0 (x := .v (.int .i64 (a0.Seats.length : Int))) rfl rfl rfl rfl (.lenLm Try.underlying22 rfl rfl) ?_
      refine RunT.ot0 (x := .v (.bool (decide (v24 < (a0.Seats.length : Int))))) rfl rfl rfl rfl (.bin rfl rfl (fun w => b_lss w) rfl) ?_
      refine RunT.nil ?_
      refine T.cond2 (t := decide (v24 < (a0.Seats.length : Int))) rfl (fun c25 => ?_) (fun c25 => ?_)
      · replace H := ct H c25
        refine T.skip ?_
        refine T.block ?_
        refine T.seq ?_
        refine T.region ?_
        refine RunT.ot0 (x := .agg [.lst (List.map eSeat a0.Seats), .v (.int .i64 a0.Gap), .v (.int .i64 a0.Radius), .lst (List.map eI a0.Kills), .lst (List.map ePole a0.Poles)]) rfl rfl rfl rfl (.loadP ty26 rfl rfl rfl) ?_
        refine RunT.ot0 (x := .lst (List.map eB a1)) rfl rfl rfl rfl (.moveX rfl) ?_
        refine RunT.ot0 (x := .v (.int .i64 v24)) rfl rfl rfl rfl (.moveX rfl) ?_
        refine RunT.ot0 (x := .ptr 0 0) rfl rfl rfl rfl (.fieldPX fl26_0 rfl rfl) ?_
        refine RunT.ot0 (x := .lst (List.map eSeat a0.Seats)) rfl rfl rfl rfl (.loadP ty22 rfl rfl rfl) ?_
        refine RunT.ot0 (x := .v (.int .i64 (a0.Seats.length : Int))) rfl rfl rfl rfl (.lenLm Try.underlying22 rfl rfl) ?_
        obtain ⟨r26, h27, H⟩ := bs H
        refine RunT.ot0 (x := .v (.int .i64 r26)) rfl rfl rfl rfl (.callp (run_long_pc false k a0 a1 v24 (a0.Seats.length : Int) r26 h27) rfl ⟨(.agg' ⟨.lst, .v, .v, .lst, .lst, trivial⟩), (.one .lst), (.one .v), (.one .v), trivial⟩ rfl rfl rfl) ?_
        refine RunT.ot0 (x := .v (.int .i64 r26)) rfl rfl rfl rfl (.assignX rfl) ?_
        refine RunT.nil ?_
        refine T.seq ?_
        refine T.seq ?_
        refine T.sub (sub_pick [1, 2, 5, 6, 7] [0, 1] (st' := ⟨[(1, .lst (List.map eB a1)), (2, .ptr 0 0), (5, .own 1 0 v23.length), (6, .v (.int .i64 v24)), (7, .v (.int .i64 r26))], [(0, some (.box [.lst (List.map eSeat a0.Seats), .v (.int .i64 a0.Gap), .v (.int .i64 a0.Radius), .lst (List.map eI a0.Kills), .lst (List.map ePole a0.Poles)])), (1, some (.arr false 1 (List.map eLI v23)))], 8, []⟩) rfl rfl rfl rfl rfl) ?_
        refine T.region ?_
        refine RunT.ot0 (x := .v (.int .i64 r26)) rfl rfl rfl rfl (.moveX rfl) ?_
        refine RunT.ot0 (x := .v (.bool (decide (0 < r26)))) rfl rfl rfl rfl (.bin rfl rfl (fun w => b_gtr w) rfl) ?_
        refine RunT.nil ?_
        refine T.cond2 (t := decide (0 < r26)) rfl (fun c28 => ?_) (fun c28 => ?_)
        · replace H := ct H c28
          refine T.region ?_
          refine RunT.ot0 (x := .own 1 0 v23.length) rfl rfl rfl rfl (.moveX rfl) ?_
          refine RunT.ot0 (x := .v (.int .i64 v24)) rfl rfl rfl rfl (.moveX rfl) ?_
          refine RunT.ot0 (x := .v (.int .i64 r26)) rfl rfl rfl rfl (.moveX rfl) ?_
          obtain ⟨r29, h30, H⟩ := bs H
          refine RunT.ot0 (x := .lst (List.map eI r29)) rfl rfl rfl rfl (.callp (PC.frozen (run_piece_pc false k v24 r26 r29 h30)) rfl ⟨(.one .v), (.one .v), trivial⟩ rfl rfl rfl) ?_
          refine RunT.ot1 (x := .own 8 0 (([r29]).length)) (p0 := (8, some (.arr false 1 (List.map eLI [r29])))) (n' := 16) rfl rfl rfl rfl (.bslicem (d := false) (l := [r29]) (f := eLI) sl35 rfl rfl rfl enc_LI rfl) rfl ?_
          obtain ⟨h31, H⟩ := gs H
          refine RunT.ot2 (x := .own 16 0 ((v23 ++ [r29]).length)) (p0 := (16, some (.arr false 1 (List.map eLI (v23 ++ [r29]))))) (p1 := (1, none)) (n' := 24) rfl rfl rfl rfl (.appOn (d := false) (l := v23) (m := [r29]) (f := eLI) rfl sl35 rfl rfl rfl (.ownn Try.underlying35 rfl rfl (fun h => by cases h)) rfl h31) rfl ?_
          refine RunT.ot0 (x := .own 16 0 ((v23 ++ [r29]).length)) rfl rfl rfl rfl (.assignX rfl) ?_
          refine RunT.nil ?_
          refine T.region ?_
          refine RunT.ot0 (x := .v (.int .i64 v24)) rfl rfl rfl rfl (.moveX rfl) ?_
          refine RunT.ot0 (x := .v (.int .i64 r26)) rfl rfl rfl rfl (.moveX rfl) ?_
          refine RunT.ot0 (x := .v (.int .i64 (if 1 > r26 then 1 else r26))) rfl rfl rfl rfl (.max rfl rfl) ?_
          refine RunT.ot0 (x := .v (.int .i64 (wr (v24 + (if 1 > r26 then 1 else r26))))) rfl rfl rfl rfl (.bin rfl rfl (fun w => b_addw w) rfl) ?_
          refine RunT.ot0 (x := .v (.int .i64 (wr (v24 + (if 1 > r26 then 1 else r26))))) rfl rfl rfl rfl (.assignX rfl) ?_
          refine RunT.nil ?_
          exact ⟨n, Nat.lt_succ_self n, _, ⟨v23 ++ [r29], wr (v24 + (if 1 > r26 then 1 else r26)), H, rfl⟩, (sub_to [some 0, some 16] (by decide) rfl rfl (⟨⟨_, rfl, .one .lst⟩, ⟨⟨_, rfl, .one (.ptr rfl)⟩, ⟨⟨_, rfl, .one (.own rfl)⟩, ⟨⟨_, rfl, .one .v⟩, trivial⟩⟩⟩⟩) (⟨⟨rfl, .inl ⟨_, _, rfl, rfl, .box ⟨.lst, .v, .v, .lst, .lst, trivial⟩⟩⟩, ⟨⟨rfl, .inl ⟨_, _, rfl, rfl, .arr rfl⟩⟩, trivial⟩⟩))⟩
        · replace H := cf H c28
          refine T.skip ?_
          refine T.region ?_
          refine RunT.ot0 (x := .v (.int .i64 v24)) rfl rfl rfl rfl (.moveX rfl) ?_
          refine RunT.ot0 (x := .v (.int .i64 r26)) rfl rfl rfl rfl (.moveX rfl) ?_
          refine RunT.ot0 (x := .v (.int .i64 (if 1 > r26 then 1 else r26))) rfl rfl rfl rfl (.max rfl rfl) ?_
          refine RunT.ot0 (x := .v (.int .i64 (wr (v24 + (if 1 > r26 then 1 else r26))))) rfl rfl rfl rfl (.bin rfl rfl (fun w => b_addw w) rfl) ?_
          refine RunT.ot0 (x := .v (.int .i64 (wr (v24 + (if 1 > r26 then 1 else r26))))) rfl rfl rfl rfl (.assignX rfl) ?_
          refine RunT.nil ?_
          exact ⟨n, Nat.lt_succ_self n, _, ⟨v23, wr (v24 + (if 1 > r26 then 1 else r26)), H, rfl⟩, (sub_to [some 0, some 1] (by decide) rfl rfl (⟨⟨_, rfl, .one .lst⟩, ⟨⟨_, rfl, .one (.ptr rfl)⟩, ⟨⟨_, rfl, .one (.own rfl)⟩, ⟨⟨_, rfl, .one .v⟩, trivial⟩⟩⟩⟩) (⟨⟨rfl, .inl ⟨_, _, rfl, rfl, .box ⟨.lst, .v, .v, .lst, .lst, trivial⟩⟩⟩, ⟨⟨rfl, .inl ⟨_, _, rfl, rfl, .arr rfl⟩⟩, trivial⟩⟩))⟩
      · replace H := cf H c25
        refine T.exit ?_
        obtain rfl := si H
        exact (sub_to [some 1] (by decide) rfl rfl (⟨⟨_, rfl, .one (.own rfl)⟩, trivial⟩) (⟨⟨rfl, .inl ⟨_, _, rfl, rfl, .arr rfl⟩⟩, trivial⟩))
    · intro s hS
      have H := HO22
      refine T.sub hS ?_
      refine T.seq ?_
      refine T.sub (sub_pick [5] [0] (st' := ⟨[(5, .own 0 0 o20.length)], [(0, some (.arr false 1 (List.map eLI o20)))], 8, []⟩) rfl rfl rfl rfl rfl) ?_
      refine T.region ?_
      refine RunT.ot0 (x := .own 0 0 o20.length) rfl rfl rfl rfl (.moveX rfl) ?_
      refine RunT.ot0 (x := .own 0 0 o20.length) rfl rfl rfl rfl (.assignX rfl) ?_
      refine RunT.nil ?_
      obtain rfl := si H
      refine T.sub (sub_to (st' := ⟨[(4, .own 0 0 ((List.map eLI o20).length))], [(0, some (.arr false 1 (List.map eLI o20)))], 8, []⟩) [some 0] (by decide) rfl rfl (⟨⟨_, rfl, .one (.own' rfl (List.length_map _).symm)⟩, trivial⟩) (⟨⟨rfl, .inl ⟨_, _, rfl, rfl, .arr rfl⟩⟩, trivial⟩)) ?_
      refine T.ret ?_
      exact RetOk.same [.own 0 0 ((List.map eLI o20).length)] ⟨rfl, trivial⟩ rfl rfl rfl
set_option maxHeartbeats 4000000 in
theorem law7_told_pc (al : Bool) (k : Nat)  (o : Bool) (H : law7_told k  = some o) : PC Try.prog al 41 [] (.v (.bool o)) := by
  unfold law7_told at H
  refine PC.of_T Try.func41 rfl rfl (n := 111) rfl rfl (.inr rfl) ?_
  intro base B w0
  refine T.st (st' := ⟨[], [], 0, []⟩) rfl ?_
  refine T.seq ?_
  refine T.region ?_
  refine RunT.ot0 (x := .v (.bool false)) rfl rfl rfl rfl (.assignX rfl) ?_
  refine RunT.nil ?_
  refine T.seq ?_
  refine T.region ?_
  refine RunT.ot0 (x := .agg [.v (.int .i64 0), .v (.int .i64 0), .v (.int .i64 0), .v (.int .i64 0)]) rfl rfl rfl rfl (.bu bu28 rfl) ?_
  refine RunT.ot0 (x := .agg [.v (.int .i64 0), .v (.int .i64 10), .v (.int .i64 0), .v (.int .i64 0)]) rfl rfl rfl rfl (.bu bu28 rfl) ?_
  refine RunT.ot0 (x := .agg [.v (.int .i64 0), .v (.int .i64 21), .v (.int .i64 0), .v (.int .i64 0)]) rfl rfl rfl rfl (.bu bu28 rfl) ?_
  refine RunT.ot0 (x := .agg [.v (.int .i64 0), .v (.int .i64 31), .v (.int .i64 0), .v (.int .i64 0)]) rfl rfl rfl rfl (.bu bu28 rfl) ?_
  refine RunT.ot0 (x := .agg [.v (.int .i64 1), .v (.int .i64 35), .v (.int .i64 0), .v (.int .i64 0)]) rfl rfl rfl rfl (.bu bu28 rfl) ?_
  refine RunT.ot1 (x := .own 0 0 (([Seat.mk 0 0 0 0, Seat.mk 0 10 0 0, Seat.mk 0 21 0 0, Seat.mk 0 31 0 0, Seat.mk 1 35 0 0]).length)) (p0 := (0, some (.arr false 4 (List.map eSeat [Seat.mk 0 0 0 0, Seat.mk 0 10 0 0, Seat.mk 0 21 0 0, Seat.mk 0 31 0 0, Seat.mk 1 35 0 0])))) (n' := 8) rfl rfl rfl rfl (.bslicem (d := false) (l := [Seat.mk 0 0 0 0, Seat.mk 0 10 0 0, Seat.mk 0 21 0 0, Seat.mk 0 31 0 0, Seat.mk 1 35 0 0]) (f := eSeat) sl22 rfl rfl rfl enc_Seat rfl) rfl ?_
  refine RunT.ot0 (x := .agg [.own 0 0 (([Seat.mk 0 0 0 0, Seat.mk 0 10 0 0, Seat.mk 0 21 0 0, Seat.mk 0 31 0 0, Seat.mk 1 35 0 0]).length), .v (.int .i64 10), .v (.int .i64 0), .v (.slice none 0 0), .v (.slice none 0 0)]) rfl rfl rfl rfl (.bu bu26 rfl) ?_
  refine RunT.ot1 (x := .ptr 8 0) (p0 := (8, some (.box [.v (.slice none 0 0), .v (.int .i64 0), .v (.int .i64 0), .v (.slice none 0 0), .v (.slice none 0 0)]))) (n' := 16) rfl rfl rfl rfl (.allocX in26.zero rfl rfl) rfl ?_
  refine RunT.on1 (x := .junk) (p0 := (8, some (.box [.own 0 0 (([Seat.mk 0 0 0 0, Seat.mk 0 10 0 0, Seat.mk 0 21 0 0, Seat.mk 0 31 0 0, Seat.mk 1 35 0 0]).length), .v (.int .i64 10), .v (.int .i64 0), .v (.slice none 0 0), .v (.slice none 0 0)]))) (n' := 24) rfl rfl rfl (.storePX ty26 rfl rfl rfl rfl rfl rfl rfl) rfl ?_
  refine RunT.nil ?_
  refine T.seq ?_
  refine T.region ?_
  refine RunT.ot1 (x := .own 24 0 (([true, true, true, true, true]).length)) (p0 := (24, some (.arr false 1 (List.map eB [true, true, true, true, true])))) (n' := 32) rfl rfl rfl rfl (.bslicem (d := false) (l := [true, true, true, true, true]) (f := eB) sl43 rfl rfl rfl enc_B rfl) rfl ?_
  refine RunT.ot0 (x := .own 24 0 (([true, true, true, true, true]).length)) rfl rfl rfl rfl (.assignX rfl) ?_
  refine RunT.nil ?_
  refine T.seq ?_
  refine T.sub (sub_to (st' := ⟨[(1, .ptr 0 0), (2, .own 1 0 (([true, true, true, true, true]).length))], [(0, some (.box [.lst (List.map eSeat [Seat.mk 0 0 0 0, Seat.mk 0 10 0 0, Seat.mk 0 21 0 0, Seat.mk 0 31 0 0, Seat.mk 1 35 0 0]), .v (.int .i64 10), .v (.int .i64 0), .v (.slice none 0 0), .v (.slice none 0 0)])), (1, some (.arr false 1 (List.map eB [true, true, true, true, true])))], 8, []⟩) [some 8, some 24] (by decide) rfl rfl (⟨⟨_, rfl, .one (.ptr rfl)⟩, ⟨⟨_, rfl, .one (.own rfl)⟩, trivial⟩⟩) (⟨⟨rfl, .inl ⟨_, _, rfl, rfl, .box ⟨(.frzF rfl rfl), .v, .v, .v, .v, trivial⟩⟩⟩, ⟨⟨rfl, .inl ⟨_, _, rfl, rfl, .arr rfl⟩⟩, trivial⟩⟩)) ?_
  refine T.sub (sub_to (st' := ⟨[(1, .ptr 0 0), (2, .lst (List.map eB [true, true, true, true, true]))], [(0, some (.box [.lst (List.map eSeat [Seat.mk 0 0 0 0, Seat.mk 0 10 0 0, Seat.mk 0 21 0 0, Seat.mk 0 31 0 0, Seat.mk 1 35 0 0]), .v (.int .i64 10), .v (.int .i64 0), .v (.slice none 0 0), .v (.slice none 0 0)]))], 8, []⟩) [some 0] (by decide) rfl rfl (⟨⟨_, rfl, .one (.ptr rfl)⟩, ⟨⟨_, rfl, .one (.frzF rfl rfl)⟩, trivial⟩⟩) (⟨⟨rfl, .inl ⟨_, _, rfl, rfl, .box ⟨.lst, .v, .v, .v, .v, trivial⟩⟩⟩, trivial⟩)) ?_
  refine T.sub (sub_pick [1, 2] [0] (st' := ⟨[(1, .ptr 0 0), (2, .lst (List.map eB [true, true, true, true, true]))], [(0, some (.box [.lst (List.map eSeat [Seat.mk 0 0 0 0, Seat.mk 0 10 0 0, Seat.mk 0 21 0 0, Seat.mk 0 31 0 0, Seat.mk 1 35 0 0]), .v (.int .i64 10), .v (.int .i64 0), .v (.slice none 0 0), .v (.slice none 0 0)]))], 8, []⟩) rfl rfl rfl rfl rfl) ?_
  refine T.region ?_
  refine RunT.ot0 (x := .agg [.lst (List.map eSeat [Seat.mk 0 0 0 0, Seat.mk 0 10 0 0, Seat.mk 0 21 0 0, Seat.mk 0 31 0 0, Seat.mk 1 35 0 0]), .v (.int .i64 10), .v (.int .i64 0), .v (.slice none 0 0), .v (.slice none 0 0)]) rfl rfl rfl rfl (.loadP ty26 rfl rfl rfl) ?_
  refine RunT.ot0 (x := .lst (List.map eB [true, true, true, true, true])) rfl rfl rfl rfl (.moveX rfl) ?_
  obtain ⟨r5, h6, H⟩ := bs H
  refine RunT.ot0 (x := .lst (List.map eLI r5)) rfl rfl rfl rfl (.callp (PC.frozen (run_Runs_pc k (Venue.mk [Seat.mk 0 0 0 0, Seat.mk 0 10 0 0, Seat.mk 0 21 0 0, Seat.mk 0 31 0 0, Seat.mk 1 35 0 0] 10 0 [] []) [true, true, true, true, true] r5 h6)) rfl ⟨(.agg ⟨(.inl ⟨rfl, rfl⟩), (.inl ⟨rfl, rfl⟩), (.inl ⟨rfl, rfl⟩), (.inr ⟨rfl, rfl⟩), (.inr ⟨rfl, rfl⟩), trivial⟩), (.same rfl), trivial⟩ rfl rfl rfl) ?_
  refine RunT.ot0 (x := .lst (List.map eLI r5)) rfl rfl rfl rfl (.assignX rfl) ?_
  refine RunT.nil ?_
  refine T.seq ?_
  refine T.region ?_
  refine RunT.ot0 (x := .agg [.lst (List.map eSeat [Seat.mk 0 0 0 0, Seat.mk 0 10 0 0, Seat.mk 0 21 0 0, Seat.mk 0 31 0 0, Seat.mk 1 35 0 0]), .v (.int .i64 10), .v (.int .i64 0), .v (.slice none 0 0), .v (.slice none 0 0)]) rfl rfl rfl rfl (.loadP ty26 rfl rfl rfl) ?_
  refine RunT.ot0 (x := .lst (List.map eB [true, true, true, true, true])) rfl rfl rfl rfl (.moveX rfl) ?_
  obtain ⟨r7, h8, H⟩ := bs H
  refine RunT.ot0 (x := .tup [.lst (List.map eI r7.1), .v (.bool r7.2)]) rfl rfl rfl rfl (.callp (PC.frozen (run_Of_pc false k (Venue.mk [Seat.mk 0 0 0 0, Seat.mk 0 10 0 0, Seat.mk 0 21 0 0, Seat.mk 0 31 0 0, Seat.mk 1 35 0 0] 10 0 [] []) [true, true, true, true, true] 2 2 r7 h8)) rfl ⟨(.agg' ⟨.lst, .v, .v, .nil, .nil, trivial⟩), (.one .lst), (.one .v), (.one .v), trivial⟩ rfl rfl rfl) ?_
  refine RunT.ot0 (x := .tup [.lst (List.map eI r7.1), .v (.bool r7.2)]) rfl rfl rfl rfl (.moveX rfl) ?_
  refine RunT.ot0 (x := .lst (List.map eI r7.1)) rfl rfl rfl rfl (.extract rfl rfl) ?_
  refine RunT.ot0 (x := .v (.bool r7.2)) rfl rfl rfl rfl (.extract rfl rfl) ?_
  refine RunT.ot0 (x := .lst (List.map eI r7.1)) rfl rfl rfl rfl (.assignX rfl) ?_
  refine RunT.ot0 (x := .v (.bool r7.2)) rfl rfl rfl rfl (.assignX rfl) ?_
  refine RunT.nil ?_
  refine T.seq ?_
  refine T.region ?_
  refine RunT.ot0 (x := .agg [.lst (List.map eSeat [Seat.mk 0 0 0 0, Seat.mk 0 10 0 0, Seat.mk 0 21 0 0, Seat.mk 0 31 0 0, Seat.mk 1 35 0 0]), .v (.int .i64 10), .v (.int .i64 0), .v (.slice none 0 0), .v (.slice none 0 0)]) rfl rfl rfl rfl (.loadP ty26 rfl rfl rfl) ?_
  refine RunT.ot0 (x := .lst (List.map eB [true, true, true, true, true])) rfl rfl rfl rfl (.moveX rfl) ?_
  obtain ⟨r9, h10, H⟩ := bs H
  refine RunT.ot0 (x := .tup [.lst (List.map eI r9.1), .v (.bool r9.2)]) rfl rfl rfl rfl (.callp (PC.frozen (run_Of_pc false k (Venue.mk [Seat.mk 0 0 0 0, Seat.mk 0 10 0 0, Seat.mk 0 21 0 0, Seat.mk 0 31 0 0, Seat.mk 1 35 0 0] 10 0 [] []) [true, true, true, true, true] 1 2 r9 h10)) rfl ⟨(.agg' ⟨.lst, .v, .v, .nil, .nil, trivial⟩), (.one .lst), (.one .v), (.one .v), trivial⟩ rfl rfl rfl) ?_
  refine RunT.ot0 (x := .tup [.lst (List.map eI r9.1), .v (.bool r9.2)]) rfl rfl rfl rfl (.moveX rfl) ?_
  refine RunT.ot0 (x := .lst (List.map eI r9.1)) rfl rfl rfl rfl (.extract rfl rfl) ?_
  refine RunT.ot0 (x := .v (.bool r9.2)) rfl rfl rfl rfl (.extract rfl rfl) ?_
  refine RunT.ot0 (x := .lst (List.map eI r9.1)) rfl rfl rfl rfl (.assignX rfl) ?_
  refine RunT.ot0 (x := .v (.bool r9.2)) rfl rfl rfl rfl (.assignX rfl) ?_
  refine RunT.nil ?_
  refine T.seq ?_
  refine T.sub (sub_pick [1, 2, 3, 4, 5, 7] [0] (st' := ⟨[(1, .ptr 0 0), (2, .lst (List.map eB [true, true, true, true, true])), (3, .lst (List.map eLI r5)), (4, .lst (List.map eI r7.1)), (5, .v (.bool r7.2)), (7, .v (.bool r9.2))], [(0, some (.box [.lst (List.map eSeat [Seat.mk 0 0 0 0, Seat.mk 0 10 0 0, Seat.mk 0 21 0 0, Seat.mk 0 31 0 0, Seat.mk 1 35 0 0]), .v (.int .i64 10), .v (.int .i64 0), .v (.slice none 0 0), .v (.slice none 0 0)]))], 8, []⟩) rfl rfl rfl rfl rfl) ?_
  refine T.draw (wr := []) mixed rfl rfl ?_ rfl
  refine RunD.ot0 (x := .agg [.lst (List.map eSeat [Seat.mk 0 0 0 0, Seat.mk 0 10 0 0, Seat.mk 0 21 0 0, Seat.mk 0 31 0 0, Seat.mk 1 35 0 0]), .v (.int .i64 10), .v (.int .i64 0), .v (.slice none 0 0), .v (.slice none 0 0)]) rfl rfl rfl rfl (.loadP ty26 rfl rfl rfl) rfl ?_
  obtain ⟨r51, h52, H⟩ := bs H
  refine RunD.ot0 (x := .v (.bool r51)) rfl rfl rfl rfl (.callp (run_Next_pc false k (Venue.mk [Seat.mk 0 0 0 0, Seat.mk 0 10 0 0, Seat.mk 0 21 0 0, Seat.mk 0 31 0 0, Seat.mk 1 35 0 0] 10 0 [] []) 0 r51 h52) rfl ⟨(.agg' ⟨.lst, .v, .v, .nil, .nil, trivial⟩), (.one .v), trivial⟩ rfl rfl rfl) rfl ?_
  refine RunD.ot0 (x := .v (.bool r51)) rfl rfl rfl rfl (.moveX rfl) rfl ?_
  refine RunD.cases (t := 33) (c := r51) rfl (fun g53 => ?_) (fun g53 => ?_)
  · replace H := ct H g53
    refine RunD.gt0 (x := .agg [.lst (List.map eSeat [Seat.mk 0 0 0 0, Seat.mk 0 10 0 0, Seat.mk 0 21 0 0, Seat.mk 0 31 0 0, Seat.mk 1 35 0 0]), .v (.int .i64 10), .v (.int .i64 0), .v (.slice none 0 0), .v (.slice none 0 0)]) rfl rfl rfl (bo g53) rfl rfl (.loadP ty26 rfl rfl rfl) rfl ?_
    obtain ⟨r54, h55, H⟩ := bs H
    refine RunD.gt0 (x := .v (.bool r54)) rfl rfl rfl (bo g53) rfl rfl (.callp (run_Next_pc false k (Venue.mk [Seat.mk 0 0 0 0, Seat.mk 0 10 0 0, Seat.mk 0 21 0 0, Seat.mk 0 31 0 0, Seat.mk 1 35 0 0] 10 0 [] []) 1 r54 h55) rfl ⟨(.agg' ⟨.lst, .v, .v, .nil, .nil, trivial⟩), (.one .v), trivial⟩ rfl rfl rfl) rfl ?_
    refine RunD.gt0 (x := .v (.bool (!r54))) rfl rfl rfl (bo g53) rfl rfl (.un rfl (fun w => u_not w) rfl) rfl ?_
    refine RunD.ot0 (x := .v (.bool (!r54))) rfl rfl rfl rfl (.pickT (bo g53) rfl) rfl ?_
    refine RunD.ot0 (x := .v (.bool (!r54))) rfl rfl rfl rfl (.moveX rfl) rfl ?_
    refine RunD.cases (t := 38) (c := !r54) rfl (fun g56 => ?_) (fun g56 => ?_)
    · replace H := ct H g56
      refine RunD.gt0 (x := .agg [.lst (List.map eSeat [Seat.mk 0 0 0 0, Seat.mk 0 10 0 0, Seat.mk 0 21 0 0, Seat.mk 0 31 0 0, Seat.mk 1 35 0 0]), .v (.int .i64 10), .v (.int .i64 0), .v (.slice none 0 0), .v (.slice none 0 0)]) rfl rfl rfl (bo g56) rfl rfl (.loadP ty26 rfl rfl rfl) rfl ?_
      obtain ⟨r57, h58, H⟩ := bs H
      refine RunD.gt0 (x := .v (.bool r57)) rfl rfl rfl (bo g56) rfl rfl (.callp (run_Next_pc false k (Venue.mk [Seat.mk 0 0 0 0, Seat.mk 0 10 0 0, Seat.mk 0 21 0 0, Seat.mk 0 31 0 0, Seat.mk 1 35 0 0] 10 0 [] []) 3 r57 h58) rfl ⟨(.agg' ⟨.lst, .v, .v, .nil, .nil, trivial⟩), (.one .v), trivial⟩ rfl rfl rfl) rfl ?_
      refine RunD.gt0 (x := .v (.bool (!r57))) rfl rfl rfl (bo g56) rfl rfl (.un rfl (fun w => u_not w) rfl) rfl ?_
      refine RunD.ot0 (x := .v (.bool (!r57))) rfl rfl rfl rfl (.pickT (bo g56) rfl) rfl ?_
      refine RunD.ot0 (x := .v (.bool (!r57))) rfl rfl rfl rfl (.moveX rfl) rfl ?_
      refine RunD.cases (t := 43) (c := !r57) rfl (fun g59 => ?_) (fun g59 => ?_)
      · replace H := ct H g59
        refine RunD.gt0 (x := .agg [.lst (List.map eSeat [Seat.mk 0 0 0 0, Seat.mk 0 10 0 0, Seat.mk 0 21 0 0, Seat.mk 0 31 0 0, Seat.mk 1 35 0 0]), .v (.int .i64 10), .v (.int .i64 0), .v (.slice none 0 0), .v (.slice none 0 0)]) rfl rfl rfl (bo g59) rfl rfl (.loadP ty26 rfl rfl rfl) rfl ?_
        obtain ⟨r60, h61, H⟩ := bs H
        refine RunD.gt0 (x := .v (.bool r60)) rfl rfl rfl (bo g59) rfl rfl (.callp (run_Next_pc false k (Venue.mk [Seat.mk 0 0 0 0, Seat.mk 0 10 0 0, Seat.mk 0 21 0 0, Seat.mk 0 31 0 0, Seat.mk 1 35 0 0] 10 0 [] []) 4 r60 h61) rfl ⟨(.agg' ⟨.lst, .v, .v, .nil, .nil, trivial⟩), (.one .v), trivial⟩ rfl rfl rfl) rfl ?_
        refine RunD.gt0 (x := .v (.bool (!r60))) rfl rfl rfl (bo g59) rfl rfl (.un rfl (fun w => u_not w) rfl) rfl ?_
        refine RunD.ot0 (x := .v (.bool (!r60))) rfl rfl rfl rfl (.pickT (bo g59) rfl) rfl ?_
        refine RunD.ot0 (x := .v (.bool (!r60))) rfl rfl rfl rfl (.moveX rfl) rfl ?_
        refine RunD.cases (t := 48) (c := !r60) rfl (fun g62 => ?_) (fun g62 => ?_)
        · replace H := ct H g62
          refine RunD.gt0 (x := .lst (List.map eLI r5)) rfl rfl rfl (bo g62) rfl rfl (.moveX rfl) rfl ?_
          refine RunD.gt0 (x := .v (.int .i64 (r5.length : Int))) rfl rfl rfl (bo g62) rfl rfl (.lenLm Try.underlying35 rfl rfl) rfl ?_
          refine RunD.gt0 (x := .v (.bool (decide ((r5.length : Int) = 3)))) rfl rfl rfl (bo g62) rfl rfl (.bin rfl rfl (fun w => b_eql w) rfl) rfl ?_
          refine RunD.ot0 (x := .v (.bool (decide ((r5.length : Int) = 3)))) rfl rfl rfl rfl (.pickT (bo g62) rfl) rfl ?_
          refine RunD.ot0 (x := .v (.bool (decide ((r5.length : Int) = 3)))) rfl rfl rfl rfl (.moveX rfl) rfl ?_
          refine RunD.cases (t := 53) (c := decide ((r5.length : Int) = 3)) rfl (fun g63 => ?_) (fun g63 => ?_)
          · replace H := ct H g63
            refine RunD.gt0 (x := .lst (List.map eLI r5)) rfl rfl rfl (bo g63) rfl rfl (.moveX rfl) rfl ?_
            obtain ⟨y64, h65, H⟩ := bs H
            refine RunD.gt0 (x := .rptr [.lst (List.map eI y64)]) rfl rfl rfl (bo g63) rfl rfl (.idxLX h65 enc_LI sl35 rfl rfl rfl) rfl ?_
            refine RunD.gt0 (x := .lst (List.map eI y64)) rfl rfl rfl (bo g63) rfl rfl (.loadR ty23 rfl rfl) rfl ?_
            refine RunD.gt0 (x := .v (.int .i64 (y64.length : Int))) rfl rfl rfl (bo g63) rfl rfl (.lenLm Try.underlying23 rfl rfl) rfl ?_
            refine RunD.gt0 (x := .v (.bool (decide ((y64.length : Int) = 2)))) rfl rfl rfl (bo g63) rfl rfl (.bin rfl rfl (fun w => b_eql w) rfl) rfl ?_
            refine RunD.ot0 (x := .v (.bool (decide ((y64.length : Int) = 2)))) rfl rfl rfl rfl (.pickT (bo g63) rfl) rfl ?_
            refine RunD.ot0 (x := .v (.bool (decide ((y64.length : Int) = 2)))) rfl rfl rfl rfl (.moveX rfl) rfl ?_
            refine RunD.cases (t := 60) (c := decide ((y64.length : Int) = 2)) rfl (fun g66 => ?_) (fun g66 => ?_)
            · replace H := ct H g66
              refine RunD.gt0 (x := .lst (List.map eLI r5)) rfl rfl rfl (bo g66) rfl rfl (.moveX rfl) rfl ?_
              obtain ⟨y67, h68, H⟩ := bs H
              refine RunD.gt0 (x := .rptr [.lst (List.map eI y67)]) rfl rfl rfl (bo g66) rfl rfl (.idxLX h68 enc_LI sl35 rfl rfl rfl) rfl ?_
              refine RunD.gt0 (x := .lst (List.map eI y67)) rfl rfl rfl (bo g66) rfl rfl (.loadR ty23 rfl rfl) rfl ?_
              obtain ⟨y69, h70, H⟩ := bs H
              refine RunD.gt0 (x := .rptr [.v (.int .i64 y69)]) rfl rfl rfl (bo g66) rfl rfl (.idxLX h70 enc_I sl23 rfl rfl rfl) rfl ?_
              refine RunD.gt0 (x := .v (.int .i64 y69)) rfl rfl rfl (bo g66) rfl rfl (.loadR ty3 rfl rfl) rfl ?_
              refine RunD.gt0 (x := .v (.bool (decide (y69 = 4)))) rfl rfl rfl (bo g66) rfl rfl (.bin rfl rfl (fun w => b_eql w) rfl) rfl ?_
              refine RunD.ot0 (x := .v (.bool (decide (y69 = 4)))) rfl rfl rfl rfl (.pickT (bo g66) rfl) rfl ?_
              refine RunD.ot0 (x := .v (.bool (decide (y69 = 4)))) rfl rfl rfl rfl (.moveX rfl) rfl ?_
              refine RunD.cases (t := 68) (c := decide (y69 = 4)) rfl (fun g71 => ?_) (fun g71 => ?_)
              · replace H := ct H g71
                refine RunD.gt0 (x := .v (.bool r7.2)) rfl rfl rfl (bo g71) rfl rfl (.moveX rfl) rfl ?_
                refine RunD.ot0 (x := .v (.bool r7.2)) rfl rfl rfl rfl (.pickT (bo g71) rfl) rfl ?_
                refine RunD.ot0 (x := .v (.bool r7.2)) rfl rfl rfl rfl (.moveX rfl) rfl ?_
                refine RunD.cases (t := 71) (c := r7.2) rfl (fun g72 => ?_) (fun g72 => ?_)
                · replace H := ct H g72
                  refine RunD.gt0 (x := .lst (List.map eI r7.1)) rfl rfl rfl (bo g72) rfl rfl (.moveX rfl) rfl ?_
                  refine RunD.gt0 (x := .v (.int .i64 (r7.1.length : Int))) rfl rfl rfl (bo g72) rfl rfl (.lenLm Try.underlying23 rfl rfl) rfl ?_
                  refine RunD.gt0 (x := .v (.bool (decide ((r7.1.length : Int) = 2)))) rfl rfl rfl (bo g72) rfl rfl (.bin rfl rfl (fun w => b_eql w) rfl) rfl ?_
                  refine RunD.ot0 (x := .v (.bool (decide ((r7.1.length : Int) = 2)))) rfl rfl rfl rfl (.pickT (bo g72) rfl) rfl ?_
                  refine RunD.ot0 (x := .v (.bool (decide ((r7.1.length : Int) = 2)))) rfl rfl rfl rfl (.moveX rfl) rfl ?_
                  refine RunD.cases (t := 76) (c := decide ((r7.1.length : Int) = 2)) rfl (fun g73 => ?_) (fun g73 => ?_)
                  · replace H := ct H g73
                    refine RunD.gt0 (x := .lst (List.map eI r7.1)) rfl rfl rfl (bo g73) rfl rfl (.moveX rfl) rfl ?_
                    obtain ⟨y74, h75, H⟩ := bs H
                    refine RunD.gt0 (x := .rptr [.v (.int .i64 y74)]) rfl rfl rfl (bo g73) rfl rfl (.idxLX h75 enc_I sl23 rfl rfl rfl) rfl ?_
                    refine RunD.gt0 (x := .v (.int .i64 y74)) rfl rfl rfl (bo g73) rfl rfl (.loadR ty3 rfl rfl) rfl ?_
                    refine RunD.gt0 (x := .v (.bool (decide (y74 = 3)))) rfl rfl rfl (bo g73) rfl rfl (.bin rfl rfl (fun w => b_eql w) rfl) rfl ?_
                    refine RunD.ot0 (x := .v (.bool (decide (y74 = 3)))) rfl rfl rfl rfl (.pickT (bo g73) rfl) rfl ?_
                    refine RunD.ot0 (x := .v (.bool (decide (y74 = 3)))) rfl rfl rfl rfl (.moveX rfl) rfl ?_
                    refine RunD.cases (t := 82) (c := decide (y74 = 3)) rfl (fun g76 => ?_) (fun g76 => ?_)
                    · replace H := ct H g76
                      refine RunD.gt0 (x := .v (.bool r9.2)) rfl rfl rfl (bo g76) rfl rfl (.moveX rfl) rfl ?_
                      refine RunD.gt0 (x := .v (.bool (!r9.2))) rfl rfl rfl (bo g76) rfl rfl (.un rfl (fun w => u_not w) rfl) rfl ?_
                      refine RunD.ot0 (x := .v (.bool (!r9.2))) rfl rfl rfl rfl (.pickT (bo g76) rfl) rfl ?_
                      refine RunD.ot0 (x := .v (.bool (!r9.2))) rfl rfl rfl rfl (.moveX rfl) rfl ?_
                      refine RunD.cases (t := 86) (c := !r9.2) rfl (fun g77 => ?_) (fun g77 => ?_)
                      · replace H := ct H g77
                        refine RunD.gt0 (x := .agg [.lst (List.map eSeat [Seat.mk 0 0 0 0, Seat.mk 0 10 0 0, Seat.mk 0 21 0 0, Seat.mk 0 31 0 0, Seat.mk 1 35 0 0]), .v (.int .i64 10), .v (.int .i64 0), .v (.slice none 0 0), .v (.slice none 0 0)]) rfl rfl rfl (bo g77) rfl rfl (.loadP ty26 rfl rfl rfl) rfl ?_
                        refine RunD.gt0 (x := .lst (List.map eB [true, true, true, true, true])) rfl rfl rfl (bo g77) rfl rfl (.moveX rfl) rfl ?_
                        obtain ⟨r78, h79, H⟩ := bs H
                        refine RunD.gt0 (x := .v (.int .i64 r78)) rfl rfl rfl (bo g77) rfl rfl (.callp (run_Long_pc false k (Venue.mk [Seat.mk 0 0 0 0, Seat.mk 0 10 0 0, Seat.mk 0 21 0 0, Seat.mk 0 31 0 0, Seat.mk 1 35 0 0] 10 0 [] []) [true, true, true, true, true] 0 r78 h79) rfl ⟨(.agg' ⟨.lst, .v, .v, .nil, .nil, trivial⟩), (.one .lst), (.one .v), trivial⟩ rfl rfl rfl) rfl ?_
                        refine RunD.gt0 (x := .v (.bool (decide (r78 = 2)))) rfl rfl rfl (bo g77) rfl rfl (.bin rfl rfl (fun w => b_eql w) rfl) rfl ?_
                        refine RunD.ot0 (x := .v (.bool (decide (r78 = 2)))) rfl rfl rfl rfl (.pickT (bo g77) rfl) rfl ?_
                        refine RunD.ot0 (x := .v (.bool (decide (r78 = 2)))) rfl rfl rfl rfl (.moveX rfl) rfl ?_
                        refine RunD.cases (t := 92) (c := decide (r78 = 2)) rfl (fun g80 => ?_) (fun g80 => ?_)
                        · replace H := ct H g80
                          refine RunD.gt0 (x := .agg [.lst (List.map eSeat [Seat.mk 0 0 0 0, Seat.mk 0 10 0 0, Seat.mk 0 21 0 0, Seat.mk 0 31 0 0, Seat.mk 1 35 0 0]), .v (.int .i64 10), .v (.int .i64 0), .v (.slice none 0 0), .v (.slice none 0 0)]) rfl rfl rfl (bo g80) rfl rfl (.loadP ty26 rfl rfl rfl) rfl ?_
                          refine RunD.gt0 (x := .lst (List.map eB [true, true, true, true, true])) rfl rfl rfl (bo g80) rfl rfl (.moveX rfl) rfl ?_
                          obtain ⟨y81, h82, H⟩ := bs H
                          refine RunD.gt0 (x := .lst (List.map eB y81)) rfl rfl rfl (bo g80) rfl rfl (.sliceLm sl43 rfl enc_B rfl ⟨_, rfl⟩ rfl h82) rfl ?_
                          obtain ⟨r83, h84, H⟩ := bs H
                          refine RunD.gt0 (x := .v (.int .i64 r83)) rfl rfl rfl (bo g80) rfl rfl (.callp (run_Long_pc false k (Venue.mk [Seat.mk 0 0 0 0, Seat.mk 0 10 0 0, Seat.mk 0 21 0 0, Seat.mk 0 31 0 0, Seat.mk 1 35 0 0] 10 0 [] []) y81 0 r83 h84) rfl ⟨(.agg' ⟨.lst, .v, .v, .nil, .nil, trivial⟩), (.one .lst), (.one .v), trivial⟩ rfl rfl rfl) rfl ?_
                          refine RunD.gt0 (x := .v (.bool (decide (r83 = 1)))) rfl rfl rfl (bo g80) rfl rfl (.bin rfl rfl (fun w => b_eql w) rfl) rfl ?_
                          refine RunD.ot0 (x := .v (.bool (decide (r83 = 1)))) rfl rfl rfl rfl (.pickT (bo g80) rfl) rfl ?_
                          refine RunD.ot0 (x := .v (.bool (decide (r83 = 1)))) rfl rfl rfl rfl (.moveX rfl) rfl ?_
                          refine RunD.cases (t := 99) (c := decide (r83 = 1)) rfl (fun g85 => ?_) (fun g85 => ?_)
                          · replace H := ct H g85
                            refine RunD.gt0 (x := .agg [.lst (List.map eSeat [Seat.mk 0 0 0 0, Seat.mk 0 10 0 0, Seat.mk 0 21 0 0, Seat.mk 0 31 0 0, Seat.mk 1 35 0 0]), .v (.int .i64 10), .v (.int .i64 0), .v (.slice none 0 0), .v (.slice none 0 0)]) rfl rfl rfl (bo g85) rfl rfl (.loadP ty26 rfl rfl rfl) rfl ?_
                            obtain ⟨r86, h87, H⟩ := bs H
                            refine RunD.gt0 (x := .v (.int .i64 r86)) rfl rfl rfl (bo g85) rfl rfl (.callp (run_Long_pc false k (Venue.mk [Seat.mk 0 0 0 0, Seat.mk 0 10 0 0, Seat.mk 0 21 0 0, Seat.mk 0 31 0 0, Seat.mk 1 35 0 0] 10 0 [] []) [] 0 r86 h87) rfl ⟨(.agg' ⟨.lst, .v, .v, .nil, .nil, trivial⟩), (.one .nil), (.one .v), trivial⟩ rfl rfl rfl) rfl ?_
                            refine RunD.gt0 (x := .v (.bool (decide (r86 = 0)))) rfl rfl rfl (bo g85) rfl rfl (.bin rfl rfl (fun w => b_eql w) rfl) rfl ?_
                            refine RunD.ot0 (x := .v (.bool (decide (r86 = 0)))) rfl rfl rfl rfl (.pickT (bo g85) rfl) rfl ?_
                            refine RunD.ot0 (x := .v (.bool (decide (r86 = 0)))) rfl rfl rfl rfl (.moveX rfl) rfl ?_
                            refine RunD.cases (t := 104) (c := decide (r86 = 0)) rfl (fun g88 => ?_) (fun g88 => ?_)
                            · replace H := ct H g88
                              refine RunD.gt0 (x := .agg [.v (.slice none 0 0), .v (.int .i64 0), .v (.int .i64 0), .v (.slice none 0 0), .v (.slice none 0 0)]) rfl rfl rfl (bo g88) rfl rfl (.bu bu26 rfl) rfl ?_
                              refine RunD.gt0 (x := .lst (List.map eB [true, true, true, true, true])) rfl rfl rfl (bo g88) rfl rfl (.moveX rfl) rfl ?_
                              obtain ⟨r89, h90, H⟩ := bs H
                              refine RunD.gt0 (x := .lst (List.map eLI r89)) rfl rfl rfl (bo g88) rfl rfl (.callp (PC.frozen (run_Runs_pc k (Venue.mk [] 0 0 [] []) [true, true, true, true, true] r89 h90)) rfl ⟨(.agg ⟨(.inr ⟨rfl, rfl⟩), (.inl ⟨rfl, rfl⟩), (.inl ⟨rfl, rfl⟩), (.inr ⟨rfl, rfl⟩), (.inr ⟨rfl, rfl⟩), trivial⟩), (.same rfl), trivial⟩ rfl rfl rfl) rfl ?_
                              refine RunD.gt0 (x := .v (.int .i64 (r89.length : Int))) rfl rfl rfl (bo g88) rfl rfl (.lenLm Try.underlying35 rfl rfl) rfl ?_
                              refine RunD.gt0 (x := .v (.bool (decide ((r89.length : Int) = 0)))) rfl rfl rfl (bo g88) rfl rfl (.bin rfl rfl (fun w => b_eql w) rfl) rfl ?_
                              refine RunD.ot0 (x := .v (.bool (decide ((r89.length : Int) = 0)))) rfl rfl rfl rfl (.pickT (bo g88) rfl) rfl ?_
                              refine RunD.ot0 (x := .v (.bool (decide ((r89.length : Int) = 0)))) rfl rfl rfl rfl (.assignX rfl) rfl ?_
                              refine RunD.nil (by kernel_rfl) ⟨rfl, rfl, ?_⟩
                              obtain rfl := si H
                              refine T.sub (sub_to (st' := ⟨[(0, .v (.bool (decide ((r89.length : Int) = 0))))], [], 8, []⟩) [] (by decide) rfl rfl (⟨⟨_, rfl, .one .v⟩, trivial⟩) (trivial)) ?_
                              refine T.ret ?_
                              exact RetOk.same [.v (.bool (decide ((r89.length : Int) = 0)))] ⟨rfl, trivial⟩ rfl rfl rfl
                            · replace H := cf H g88
                              refine RunD.xn rfl rfl rfl (bo g88) rfl rfl ?_
                              refine RunD.xn rfl rfl rfl (bo g88) rfl rfl ?_
                              refine RunD.xn rfl rfl rfl (bo g88) rfl rfl ?_
                              refine RunD.xn rfl rfl rfl (bo g88) rfl rfl ?_
                              refine RunD.xn rfl rfl rfl (bo g88) rfl rfl ?_
                              refine RunD.ot0 (x := .v (.bool false)) rfl rfl rfl rfl (.pickF (bo g88) rfl) rfl ?_
                              refine RunD.ot0 (x := .v (.bool false)) rfl rfl rfl rfl (.assignX rfl) rfl ?_
                              refine RunD.nil (by kernel_rfl) ⟨rfl, rfl, ?_⟩
                              obtain rfl := si H
                              refine T.sub (sub_to (st' := ⟨[(0, .v (.bool false))], [], 8, []⟩) [] (by decide) rfl rfl (⟨⟨_, rfl, .one .v⟩, trivial⟩) (trivial)) ?_
                              refine T.ret ?_
                              exact RetOk.same [.v (.bool false)] ⟨rfl, trivial⟩ rfl rfl rfl
                          · replace H := cf H g85
                            refine RunD.xn rfl rfl rfl (bo g85) rfl rfl ?_
                            refine RunD.xn rfl rfl rfl (bo g85) rfl rfl ?_
                            refine RunD.xn rfl rfl rfl (bo g85) rfl rfl ?_
                            refine RunD.ot0 (x := .v (.bool false)) rfl rfl rfl rfl (.pickF (bo g85) rfl) rfl ?_
                            refine RunD.ot0 (x := .v (.bool false)) rfl rfl rfl rfl (.moveX rfl) rfl ?_
                            refine RunD.xn rfl rfl rfl rfl rfl rfl ?_
                            refine RunD.xn rfl rfl rfl rfl rfl rfl ?_
                            refine RunD.xn rfl rfl rfl rfl rfl rfl ?_
                            refine RunD.xn rfl rfl rfl rfl rfl rfl ?_
                            refine RunD.xn rfl rfl rfl rfl rfl rfl ?_
                            refine RunD.ot0 (x := .v (.bool false)) rfl rfl rfl rfl (.pickF rfl rfl) rfl ?_
                            refine RunD.ot0 (x := .v (.bool false)) rfl rfl rfl rfl (.assignX rfl) rfl ?_
                            refine RunD.nil (by kernel_rfl) ⟨rfl, rfl, ?_⟩
                            obtain rfl := si H
                            refine T.sub (sub_to (st' := ⟨[(0, .v (.bool false))], [], 8, []⟩) [] (by decide) rfl rfl (⟨⟨_, rfl, .one .v⟩, trivial⟩) (trivial)) ?_
                            refine T.ret ?_
                            exact RetOk.same [.v (.bool false)] ⟨rfl, trivial⟩ rfl rfl rfl
                        · replace H := cf H g80
                          refine RunD.xn rfl rfl rfl (bo g80) rfl rfl ?_
                          refine RunD.xn rfl rfl rfl (bo g80) rfl rfl ?_
                          refine RunD.xn rfl rfl rfl (bo g80) rfl rfl ?_
                          refine RunD.xn rfl rfl rfl (bo g80) rfl rfl ?_
                          refine RunD.xn rfl rfl rfl (bo g80) rfl rfl ?_
                          refine RunD.ot0 (x := .v (.bool false)) rfl rfl rfl rfl (.pickF (bo g80) rfl) rfl ?_
                          refine RunD.ot0 (x := .v (.bool false)) rfl rfl rfl rfl (.moveX rfl) rfl ?_
                          refine RunD.xn rfl rfl rfl rfl rfl rfl ?_
                          refine RunD.xn rfl rfl rfl rfl rfl rfl ?_
                          refine RunD.xn rfl rfl rfl rfl rfl rfl ?_
                          refine RunD.ot0 (x := .v (.bool false)) rfl rfl rfl rfl (.pickF rfl rfl) rfl ?_
                          refine RunD.ot0 (x := .v (.bool false)) rfl rfl rfl rfl (.moveX rfl) rfl ?_
                          refine RunD.xn rfl rfl rfl rfl rfl rfl ?_
                          refine RunD.xn rfl rfl rfl rfl rfl rfl ?_
                          refine RunD.xn rfl rfl rfl rfl rfl rfl ?_
                          refine RunD.xn rfl rfl rfl rfl rfl rfl ?_
                          refine RunD.xn rfl rfl rfl rfl rfl rfl ?_
                          refine RunD.ot0 (x := .v (.bool false)) rfl rfl rfl rfl (.pickF rfl rfl) rfl ?_
                          refine RunD.ot0 (x := .v (.bool false)) rfl rfl rfl rfl (.assignX rfl) rfl ?_
                          refine RunD.nil (by kernel_rfl) ⟨rfl, rfl, ?_⟩
                          obtain rfl := si H
                          refine T.sub (sub_to (st' := ⟨[(0, .v (.bool false))], [], 8, []⟩) [] (by decide) rfl rfl (⟨⟨_, rfl, .one .v⟩, trivial⟩) (trivial)) ?_
                          refine T.ret ?_
                          exact RetOk.same [.v (.bool false)] ⟨rfl, trivial⟩ rfl rfl rfl
                      · replace H := cf H g77
                        refine RunD.xn rfl rfl rfl (bo g77) rfl rfl ?_
                        refine RunD.xn rfl rfl rfl (bo g77) rfl rfl ?_
                        refine RunD.xn rfl rfl rfl (bo g77) rfl rfl ?_
                        refine RunD.xn rfl rfl rfl (bo g77) rfl rfl ?_
                        refine RunD.ot0 (x := .v (.bool false)) rfl rfl rfl rfl (.pickF (bo g77) rfl) rfl ?_
                        refine RunD.ot0 (x := .v (.bool false)) rfl rfl rfl rfl (.moveX rfl) rfl ?_
                        refine RunD.xn rfl rfl rfl rfl rfl rfl ?_
                        refine RunD.xn rfl rfl rfl rfl rfl rfl ?_
                        refine RunD.xn rfl rfl rfl rfl rfl rfl ?_
                        refine RunD.xn rfl rfl rfl rfl rfl rfl ?_
                        refine RunD.xn rfl rfl rfl rfl rfl rfl ?_
                        refine RunD.ot0 (x := .v (.bool false)) rfl rfl rfl rfl (.pickF rfl rfl) rfl ?_
                        refine RunD.ot0 (x := .v (.bool false)) rfl rfl rfl rfl (.moveX rfl) rfl ?_
                        refine RunD.xn rfl rfl rfl rfl rfl rfl ?_
                        refine RunD.xn rfl rfl rfl rfl rfl rfl ?_
                        refine RunD.xn rfl rfl rfl rfl rfl rfl ?_
                        refine RunD.ot0 (x := .v (.bool false)) rfl rfl rfl rfl (.pickF rfl rfl) rfl ?_
                        refine RunD.ot0 (x := .v (.bool false)) rfl rfl rfl rfl (.moveX rfl) rfl ?_
                        refine RunD.xn rfl rfl rfl rfl rfl rfl ?_
                        refine RunD.xn rfl rfl rfl rfl rfl rfl ?_
                        refine RunD.xn rfl rfl rfl rfl rfl rfl ?_
                        refine RunD.xn rfl rfl rfl rfl rfl rfl ?_
                        refine RunD.xn rfl rfl rfl rfl rfl rfl ?_
                        refine RunD.ot0 (x := .v (.bool false)) rfl rfl rfl rfl (.pickF rfl rfl) rfl ?_
                        refine RunD.ot0 (x := .v (.bool false)) rfl rfl rfl rfl (.assignX rfl) rfl ?_
                        refine RunD.nil (by kernel_rfl) ⟨rfl, rfl, ?_⟩
                        obtain rfl := si H
                        refine T.sub (sub_to (st' := ⟨[(0, .v (.bool false))], [], 8, []⟩) [] (by decide) rfl rfl (⟨⟨_, rfl, .one .v⟩, trivial⟩) (trivial)) ?_
                        refine T.ret ?_
                        exact RetOk.same [.v (.bool false)] ⟨rfl, trivial⟩ rfl rfl rfl
                    · replace H := cf H g76
                      refine RunD.xn rfl rfl rfl (bo g76) rfl rfl ?_
                      refine RunD.xn rfl rfl rfl (bo g76) rfl rfl ?_
                      refine RunD.ot0 (x := .v (.bool false)) rfl rfl rfl rfl (.pickF (bo g76) rfl) rfl ?_
                      refine RunD.ot0 (x := .v (.bool false)) rfl rfl rfl rfl (.moveX rfl) rfl ?_
                      refine RunD.xn rfl rfl rfl rfl rfl rfl ?_
                      refine RunD.xn rfl rfl rfl rfl rfl rfl ?_
                      refine RunD.xn rfl rfl rfl rfl rfl rfl ?_
                      refine RunD.xn rfl rfl rfl rfl rfl rfl ?_
                      refine RunD.ot0 (x := .v (.bool false)) rfl rfl rfl rfl (.pickF rfl rfl) rfl ?_
                      refine RunD.ot0 (x := .v (.bool false)) rfl rfl rfl rfl (.moveX rfl) rfl ?_
                      refine RunD.xn rfl rfl rfl rfl rfl rfl ?_
                      refine RunD.xn rfl rfl rfl rfl rfl rfl ?_
                      refine RunD.xn rfl rfl rfl rfl rfl rfl ?_
                      refine RunD.xn rfl rfl rfl rfl rfl rfl ?_
                      refine RunD.xn rfl rfl rfl rfl rfl rfl ?_
                      refine RunD.ot0 (x := .v (.bool false)) rfl rfl rfl rfl (.pickF rfl rfl) rfl ?_
                      refine RunD.ot0 (x := .v (.bool false)) rfl rfl rfl rfl (.moveX rfl) rfl ?_
                      refine RunD.xn rfl rfl rfl rfl rfl rfl ?_
                      refine RunD.xn rfl rfl rfl rfl rfl rfl ?_
                      refine RunD.xn rfl rfl rfl rfl rfl rfl ?_
                      refine RunD.ot0 (x := .v (.bool false)) rfl rfl rfl rfl (.pickF rfl rfl) rfl ?_
                      refine RunD.ot0 (x := .v (.bool false)) rfl rfl rfl rfl (.moveX rfl) rfl ?_
                      refine RunD.xn rfl rfl rfl rfl rfl rfl ?_
                      refine RunD.xn rfl rfl rfl rfl rfl rfl ?_
                      refine RunD.xn rfl rfl rfl rfl rfl rfl ?_
                      refine RunD.xn rfl rfl rfl rfl rfl rfl ?_
                      refine RunD.xn rfl rfl rfl rfl rfl rfl ?_
                      refine RunD.ot0 (x := .v (.bool false)) rfl rfl rfl rfl (.pickF rfl rfl) rfl ?_
                      refine RunD.ot0 (x := .v (.bool false)) rfl rfl rfl rfl (.assignX rfl) rfl ?_
                      refine RunD.nil (by kernel_rfl) ⟨rfl, rfl, ?_⟩
                      obtain rfl := si H
                      refine T.sub (sub_to (st' := ⟨[(0, .v (.bool false))], [], 8, []⟩) [] (by decide) rfl rfl (⟨⟨_, rfl, .one .v⟩, trivial⟩) (trivial)) ?_
                      refine T.ret ?_
                      exact RetOk.same [.v (.bool false)] ⟨rfl, trivial⟩ rfl rfl rfl
                  · replace H := cf H g73
                    refine RunD.xn rfl rfl rfl (bo g73) rfl rfl ?_
                    refine RunD.xn rfl rfl rfl (bo g73) rfl rfl ?_
                    refine RunD.xn rfl rfl rfl (bo g73) rfl rfl ?_
                    refine RunD.xn rfl rfl rfl (bo g73) rfl rfl ?_
                    refine RunD.ot0 (x := .v (.bool false)) rfl rfl rfl rfl (.pickF (bo g73) rfl) rfl ?_
                    refine RunD.ot0 (x := .v (.bool false)) rfl rfl rfl rfl (.moveX rfl) rfl ?_
                    refine RunD.xn rfl rfl rfl rfl rfl rfl ?_
                    refine RunD.xn rfl rfl rfl rfl rfl rfl ?_
                    refine RunD.ot0 (x := .v (.bool false)) rfl rfl rfl rfl (.pickF rfl rfl) rfl ?_
                    refine RunD.ot0 (x := .v (.bool false)) rfl rfl rfl rfl (.moveX rfl) rfl ?_
                    refine RunD.xn rfl rfl rfl rfl rfl rfl ?_
                    refine RunD.xn rfl rfl rfl rfl rfl rfl ?_
                    refine RunD.xn rfl rfl rfl rfl rfl rfl ?_
                    refine RunD.xn rfl rfl rfl rfl rfl rfl ?_
                    refine RunD.ot0 (x := .v (.bool false)) rfl rfl rfl rfl (.pickF rfl rfl) rfl ?_
                    refine RunD.ot0 (x := .v (.bool false)) rfl rfl rfl rfl (.moveX rfl) rfl ?_
                    refine RunD.xn rfl rfl rfl rfl rfl rfl ?_
                    refine RunD.xn rfl rfl rfl rfl rfl rfl ?_
                    refine RunD.xn rfl rfl rfl rfl rfl rfl ?_
                    refine RunD.xn rfl rfl rfl rfl rfl rfl ?_
                    refine RunD.xn rfl rfl rfl rfl rfl rfl ?_
                    refine RunD.ot0 (x := .v (.bool false)) rfl rfl rfl rfl (.pickF rfl rfl) rfl ?_
                    refine RunD.ot0 (x := .v (.bool false)) rfl rfl rfl rfl (.moveX rfl) rfl ?_
                    refine RunD.xn rfl rfl rfl rfl rfl rfl ?_
                    refine RunD.xn rfl rfl rfl rfl rfl rfl ?_
                    refine RunD.xn rfl rfl rfl rfl rfl rfl ?_
                    refine RunD.ot0 (x := .v (.bool false)) rfl rfl rfl rfl (.pickF rfl rfl) rfl ?_
                    refine RunD.ot0 (x := .v (.bool false)) rfl rfl rfl rfl (.moveX rfl) rfl ?_
                    refine RunD.xn rfl rfl rfl rfl rfl rfl ?_
                    refine RunD.xn rfl rfl rfl rfl rfl rfl ?_
                    refine RunD.xn rfl rfl rfl rfl rfl rfl ?_
                    refine RunD.xn rfl rfl rfl rfl rfl rfl ?_
                    refine RunD.xn rfl rfl rfl rfl rfl rfl ?_
                    refine RunD.ot0 (x := .v (.bool false)) rfl rfl rfl rfl (.pickF rfl rfl) rfl ?_
                    refine RunD.ot0 (x := .v (.bool false)) rfl rfl rfl rfl (.assignX rfl) rfl ?_
                    refine RunD.nil (by kernel_rfl) ⟨rfl, rfl, ?_⟩
                    obtain rfl := si H
                    refine T.sub (sub_to (st' := ⟨[(0, .v (.bool false))], [], 8, []⟩) [] (by decide) rfl rfl (⟨⟨_, rfl, .one .v⟩, trivial⟩) (trivial)) ?_
                    refine T.ret ?_
                    exact RetOk.same [.v (.bool false)] ⟨rfl, trivial⟩ rfl rfl rfl
                · replace H := cf H g72
                  refine RunD.xn rfl rfl rfl (bo g72) rfl rfl ?_
                  refine RunD.xn rfl rfl rfl (bo g72) rfl rfl ?_
                  refine RunD.xn rfl rfl rfl (bo g72) rfl rfl ?_
                  refine RunD.ot0 (x := .v (.bool false)) rfl rfl rfl rfl (.pickF (bo g72) rfl) rfl ?_
                  refine RunD.ot0 (x := .v (.bool false)) rfl rfl rfl rfl (.moveX rfl) rfl ?_
                  refine RunD.xn rfl rfl rfl rfl rfl rfl ?_
                  refine RunD.xn rfl rfl rfl rfl rfl rfl ?_
                  refine RunD.xn rfl rfl rfl rfl rfl rfl ?_
                  refine RunD.xn rfl rfl rfl rfl rfl rfl ?_
                  refine RunD.ot0 (x := .v (.bool false)) rfl rfl rfl rfl (.pickF rfl rfl) rfl ?_
                  refine RunD.ot0 (x := .v (.bool false)) rfl rfl rfl rfl (.moveX rfl) rfl ?_
                  refine RunD.xn rfl rfl rfl rfl rfl rfl ?_
                  refine RunD.xn rfl rfl rfl rfl rfl rfl ?_
                  refine RunD.ot0 (x := .v (.bool false)) rfl rfl rfl rfl (.pickF rfl rfl) rfl ?_
                  refine RunD.ot0 (x := .v (.bool false)) rfl rfl rfl rfl (.moveX rfl) rfl ?_
                  refine RunD.xn rfl rfl rfl rfl rfl rfl ?_
                  refine RunD.xn rfl rfl rfl rfl rfl rfl ?_
                  refine RunD.xn rfl rfl rfl rfl rfl rfl ?_
                  refine RunD.xn rfl rfl rfl rfl rfl rfl ?_
                  refine RunD.ot0 (x := .v (.bool false)) rfl rfl rfl rfl (.pickF rfl rfl) rfl ?_
                  refine RunD.ot0 (x := .v (.bool false)) rfl rfl rfl rfl (.moveX rfl) rfl ?_
                  refine RunD.xn rfl rfl rfl rfl rfl rfl ?_
                  refine RunD.xn rfl rfl rfl rfl rfl rfl ?_
                  refine RunD.xn rfl rfl rfl rfl rfl rfl ?_
                  refine RunD.xn rfl rfl rfl rfl rfl rfl ?_
                  refine RunD.xn rfl rfl rfl rfl rfl rfl ?_
                  refine RunD.ot0 (x := .v (.bool false)) rfl rfl rfl rfl (.pickF rfl rfl) rfl ?_
                  refine RunD.ot0 (x := .v (.bool false)) rfl rfl rfl rfl (.moveX rfl) rfl ?_
                  refine RunD.xn rfl rfl rfl rfl rfl rfl ?_
                  refine RunD.xn rfl rfl rfl rfl rfl rfl ?_
                  refine RunD.xn rfl rfl rfl rfl rfl rfl ?_
                  refine RunD.ot0 (x := .v (.bool false)) rfl rfl rfl rfl (.pickF rfl rfl) rfl ?_
                  refine RunD.ot0 (x := .v (.bool false)) rfl rfl rfl rfl (.moveX rfl) rfl ?_
                  refine RunD.xn rfl rfl rfl rfl rfl rfl ?_
                  refine RunD.xn rfl rfl rfl rfl rfl rfl ?_
                  refine RunD.xn rfl rfl rfl rfl rfl rfl ?_
                  refine RunD.xn rfl rfl rfl rfl rfl rfl ?_
                  refine RunD.xn rfl rfl rfl rfl rfl rfl ?_
                  refine RunD.ot0 (x := .v (.bool false)) rfl rfl rfl rfl (.pickF rfl rfl) rfl ?_
                  refine RunD.ot0 (x := .v (.bool false)) rfl rfl rfl rfl (.assignX rfl) rfl ?_
                  refine RunD.nil (by kernel_rfl) ⟨rfl, rfl, ?_⟩
                  obtain rfl := si H
                  refine T.sub (sub_to (st' := ⟨[(0, .v (.bool false))], [], 8, []⟩) [] (by decide) rfl rfl (⟨⟨_, rfl, .one .v⟩, trivial⟩) (trivial)) ?_
                  refine T.ret ?_
                  exact RetOk.same [.v (.bool false)] ⟨rfl, trivial⟩ rfl rfl rfl
              · replace H := cf H g71
                refine RunD.xn rfl rfl rfl (bo g71) rfl rfl ?_
                refine RunD.ot0 (x := .v (.bool false)) rfl rfl rfl rfl (.pickF (bo g71) rfl) rfl ?_
                refine RunD.ot0 (x := .v (.bool false)) rfl rfl rfl rfl (.moveX rfl) rfl ?_
                refine RunD.xn rfl rfl rfl rfl rfl rfl ?_
                refine RunD.xn rfl rfl rfl rfl rfl rfl ?_
                refine RunD.xn rfl rfl rfl rfl rfl rfl ?_
                refine RunD.ot0 (x := .v (.bool false)) rfl rfl rfl rfl (.pickF rfl rfl) rfl ?_
                refine RunD.ot0 (x := .v (.bool false)) rfl rfl rfl rfl (.moveX rfl) rfl ?_
                refine RunD.xn rfl rfl rfl rfl rfl rfl ?_
                refine RunD.xn rfl rfl rfl rfl rfl rfl ?_
                refine RunD.xn rfl rfl rfl rfl rfl rfl ?_
                refine RunD.xn rfl rfl rfl rfl rfl rfl ?_
                refine RunD.ot0 (x := .v (.bool false)) rfl rfl rfl rfl (.pickF rfl rfl) rfl ?_
                refine RunD.ot0 (x := .v (.bool false)) rfl rfl rfl rfl (.moveX rfl) rfl ?_
                refine RunD.xn rfl rfl rfl rfl rfl rfl ?_
                refine RunD.xn rfl rfl rfl rfl rfl rfl ?_
                refine RunD.ot0 (x := .v (.bool false)) rfl rfl rfl rfl (.pickF rfl rfl) rfl ?_
                refine RunD.ot0 (x := .v (.bool false)) rfl rfl rfl rfl (.moveX rfl) rfl ?_
                refine RunD.xn rfl rfl rfl rfl rfl rfl ?_
                refine RunD.xn rfl rfl rfl rfl rfl rfl ?_
                refine RunD.xn rfl rfl rfl rfl rfl rfl ?_
                refine RunD.xn rfl rfl rfl rfl rfl rfl ?_
                refine RunD.ot0 (x := .v (.bool false)) rfl rfl rfl rfl (.pickF rfl rfl) rfl ?_
                refine RunD.ot0 (x := .v (.bool false)) rfl rfl rfl rfl (.moveX rfl) rfl ?_
                refine RunD.xn rfl rfl rfl rfl rfl rfl ?_
                refine RunD.xn rfl rfl rfl rfl rfl rfl ?_
                refine RunD.xn rfl rfl rfl rfl rfl rfl ?_
                refine RunD.xn rfl rfl rfl rfl rfl rfl ?_
                refine RunD.xn rfl rfl rfl rfl rfl rfl ?_
                refine RunD.ot0 (x := .v (.bool false)) rfl rfl rfl rfl (.pickF rfl rfl) rfl ?_
                refine RunD.ot0 (x := .v (.bool false)) rfl rfl rfl rfl (.moveX rfl) rfl ?_
                refine RunD.xn rfl rfl rfl rfl rfl rfl ?_
                refine RunD.xn rfl rfl rfl rfl rfl rfl ?_
                refine RunD.xn rfl rfl rfl rfl rfl rfl ?_
                refine RunD.ot0 (x := .v (.bool false)) rfl rfl rfl rfl (.pickF rfl rfl) rfl ?_
                refine RunD.ot0 (x := .v (.bool false)) rfl rfl rfl rfl (.moveX rfl) rfl ?_
                refine RunD.xn rfl rfl rfl rfl rfl rfl ?_
                refine RunD.xn rfl rfl rfl rfl rfl rfl ?_
                refine RunD.xn rfl rfl rfl rfl rfl rfl ?_
                refine RunD.xn rfl rfl rfl rfl rfl rfl ?_
                refine RunD.xn rfl rfl rfl rfl rfl rfl ?_
                refine RunD.ot0 (x := .v (.bool false)) rfl rfl rfl rfl (.pickF rfl rfl) rfl ?_
                refine RunD.ot0 (x := .v (.bool false)) rfl rfl rfl rfl (.assignX rfl) rfl ?_
                refine RunD.nil (by kernel_rfl) ⟨rfl, rfl, ?_⟩
                obtain rfl := si H
                refine T.sub (sub_to (st' := ⟨[(0, .v (.bool false))], [], 8, []⟩) [] (by decide) rfl rfl (⟨⟨_, rfl, .one .v⟩, trivial⟩) (trivial)) ?_
                refine T.ret ?_
                exact RetOk.same [.v (.bool false)] ⟨rfl, trivial⟩ rfl rfl rfl
            · replace H := cf H g66
              refine RunD.xn rfl rfl rfl (bo g66) rfl rfl ?_
              refine RunD.xn rfl rfl rfl (bo g66) rfl rfl ?_
              refine RunD.xn rfl rfl rfl (bo g66) rfl rfl ?_
              refine RunD.xn rfl rfl rfl (bo g66) rfl rfl ?_
              refine RunD.xn rfl rfl rfl (bo g66) rfl rfl ?_
              refine RunD.xn rfl rfl rfl (bo g66) rfl rfl ?_
              refine RunD.ot0 (x := .v (.bool false)) rfl rfl rfl rfl (.pickF (bo g66) rfl) rfl ?_
              refine RunD.ot0 (x := .v (.bool false)) rfl rfl rfl rfl (.moveX rfl) rfl ?_
              refine RunD.xn rfl rfl rfl rfl rfl rfl ?_
              refine RunD.ot0 (x := .v (.bool false)) rfl rfl rfl rfl (.pickF rfl rfl) rfl ?_
              refine RunD.ot0 (x := .v (.bool false)) rfl rfl rfl rfl (.moveX rfl) rfl ?_
              refine RunD.xn rfl rfl rfl rfl rfl rfl ?_
              refine RunD.xn rfl rfl rfl rfl rfl rfl ?_
              refine RunD.xn rfl rfl rfl rfl rfl rfl ?_
              refine RunD.ot0 (x := .v (.bool false)) rfl rfl rfl rfl (.pickF rfl rfl) rfl ?_
              refine RunD.ot0 (x := .v (.bool false)) rfl rfl rfl rfl (.moveX rfl) rfl ?_
              refine RunD.xn rfl rfl rfl rfl rfl rfl ?_
              refine RunD.xn rfl rfl rfl rfl rfl rfl ?_
              refine RunD.xn rfl rfl rfl rfl rfl rfl ?_
              refine RunD.xn rfl rfl rfl rfl rfl rfl ?_
              refine RunD.ot0 (x := .v (.bool false)) rfl rfl rfl rfl (.pickF rfl rfl) rfl ?_
              refine RunD.ot0 (x := .v (.bool false)) rfl rfl rfl rfl (.moveX rfl) rfl ?_
              refine RunD.xn rfl rfl rfl rfl rfl rfl ?_
              refine RunD.xn rfl rfl rfl rfl rfl rfl ?_
              refine RunD.ot0 (x := .v (.bool false)) rfl rfl rfl rfl (.pickF rfl rfl) rfl ?_
              refine RunD.ot0 (x := .v (.bool false)) rfl rfl rfl rfl (.moveX rfl) rfl ?_
              refine RunD.xn rfl rfl rfl rfl rfl rfl ?_
              refine RunD.xn rfl rfl rfl rfl rfl rfl ?_
              refine RunD.xn rfl rfl rfl rfl rfl rfl ?_
              refine RunD.xn rfl rfl rfl rfl rfl rfl ?_
              refine RunD.ot0 (x := .v (.bool false)) rfl rfl rfl rfl (.pickF rfl rfl) rfl ?_
              refine RunD.ot0 (x := .v (.bool false)) rfl rfl rfl rfl (.moveX rfl) rfl ?_
              refine RunD.xn rfl rfl rfl rfl rfl rfl ?_
              refine RunD.xn rfl rfl rfl rfl rfl rfl ?_
              refine RunD.xn rfl rfl rfl rfl rfl rfl ?_
              refine RunD.xn rfl rfl rfl rfl rfl rfl ?_
              refine RunD.xn rfl rfl rfl rfl rfl rfl ?_
              refine RunD.ot0 (x := .v (.bool false)) rfl rfl rfl rfl (.pickF rfl rfl) rfl ?_
              refine RunD.ot0 (x := .v (.bool false)) rfl rfl rfl rfl (.moveX rfl) rfl ?_
              refine RunD.xn rfl rfl rfl rfl rfl rfl ?_
              refine RunD.xn rfl rfl rfl rfl rfl rfl ?_
              refine RunD.xn rfl rfl rfl rfl rfl rfl ?_
              refine RunD.ot0 (x := .v (.bool false)) rfl rfl rfl rfl (.pickF rfl rfl) rfl ?_
              refine RunD.ot0 (x := .v (.bool false)) rfl rfl rfl rfl (.moveX rfl) rfl ?_
              refine RunD.xn rfl rfl rfl rfl rfl rfl ?_
              refine RunD.xn rfl rfl rfl rfl rfl rfl ?_
              refine RunD.xn rfl rfl rfl rfl rfl rfl ?_
              refine RunD.xn rfl rfl rfl rfl rfl rfl ?_
              refine RunD.xn rfl rfl rfl rfl rfl rfl ?_
              refine RunD.ot0 (x := .v (.bool false)) rfl rfl rfl rfl (.pickF rfl rfl) rfl ?_
              refine RunD.ot0 (x := .v (.bool false)) rfl rfl rfl rfl (.assignX rfl) rfl ?_
              refine RunD.nil (by kernel_rfl) ⟨rfl, rfl, ?_⟩
              obtain rfl := si H
              refine T.sub (sub_to (st' := ⟨[(0, .v (.bool false))], [], 8, []⟩) [] (by decide) rfl rfl (⟨⟨_, rfl, .one .v⟩, trivial⟩) (trivial)) ?_
              refine T.ret ?_
              exact RetOk.same [.v (.bool false)] ⟨rfl, trivial⟩ rfl rfl rfl
          · replace H := cf H g63
            refine RunD.xn rfl rfl rfl (bo g63) rfl rfl ?_
            refine RunD.xn rfl rfl rfl (bo g63) rfl rfl ?_
            refine RunD.xn rfl rfl rfl (bo g63) rfl rfl ?_
            refine RunD.xn rfl rfl rfl (bo g63) rfl rfl ?_
            refine RunD.xn rfl rfl rfl (bo g63) rfl rfl ?_
            refine RunD.ot0 (x := .v (.bool false)) rfl rfl rfl rfl (.pickF (bo g63) rfl) rfl ?_
            refine RunD.ot0 (x := .v (.bool false)) rfl rfl rfl rfl (.moveX rfl) rfl ?_
            refine RunD.xn rfl rfl rfl rfl rfl rfl ?_
            refine RunD.xn rfl rfl rfl rfl rfl rfl ?_
            refine RunD.xn rfl rfl rfl rfl rfl rfl ?_
            refine RunD.xn rfl rfl rfl rfl rfl rfl ?_
            refine RunD.xn rfl rfl rfl rfl rfl rfl ?_
            refine RunD.xn rfl rfl rfl rfl rfl rfl ?_
            refine RunD.ot0 (x := .v (.bool false)) rfl rfl rfl rfl (.pickF rfl rfl) rfl ?_
            refine RunD.ot0 (x := .v (.bool false)) rfl rfl rfl rfl (.moveX rfl) rfl ?_
            refine RunD.xn rfl rfl rfl rfl rfl rfl ?_
            refine RunD.ot0 (x := .v (.bool false)) rfl rfl rfl rfl (.pickF rfl rfl) rfl ?_
            refine RunD.ot0 (x := .v (.bool false)) rfl rfl rfl rfl (.moveX rfl) rfl ?_
            refine RunD.xn rfl rfl rfl rfl rfl rfl ?_
            refine RunD.xn rfl rfl rfl rfl rfl rfl ?_
            refine RunD.xn rfl rfl rfl rfl rfl rfl ?_
            refine RunD.ot0 (x := .v (.bool false)) rfl rfl rfl rfl (.pickF rfl rfl) rfl ?_
            refine RunD.ot0 (x := .v (.bool false)) rfl rfl rfl rfl (.moveX rfl) rfl ?_
            refine RunD.xn rfl rfl rfl rfl rfl rfl ?_
            refine RunD.xn rfl rfl rfl rfl rfl rfl ?_
            refine RunD.xn rfl rfl rfl rfl rfl rfl ?_
            refine RunD.xn rfl rfl rfl rfl rfl rfl ?_
            refine RunD.ot0 (x := .v (.bool false)) rfl rfl rfl rfl (.pickF rfl rfl) rfl ?_
            refine RunD.ot0 (x := .v (.bool false)) rfl rfl rfl rfl (.moveX rfl) rfl ?_
            refine RunD.xn rfl rfl rfl rfl rfl rfl ?_
            refine RunD.xn rfl rfl rfl rfl rfl rfl ?_
            refine RunD.ot0 (x := .v (.bool false)) rfl rfl rfl rfl (.pickF rfl rfl) rfl ?_
            refine RunD.ot0 (x := .v (.bool false)) rfl rfl rfl rfl (.moveX rfl) rfl ?_
            refine RunD.xn rfl rfl rfl rfl rfl rfl ?_
            refine RunD.xn rfl rfl rfl rfl rfl rfl ?_
            refine RunD.xn rfl rfl rfl rfl rfl rfl ?_
            refine RunD.xn rfl rfl rfl rfl rfl rfl ?_
            refine RunD.ot0 (x := .v (.bool false)) rfl rfl rfl rfl (.pickF rfl rfl) rfl ?_
            refine RunD.ot0 (x := .v (.bool false)) rfl rfl rfl rfl (.moveX rfl) rfl ?_
            refine RunD.xn rfl rfl rfl rfl rfl rfl ?_
            refine RunD.xn rfl rfl rfl rfl rfl rfl ?_
            refine RunD.xn rfl rfl rfl rfl rfl rfl ?_
            refine RunD.xn rfl rfl rfl rfl rfl rfl ?_
            refine RunD.xn rfl rfl rfl rfl rfl rfl ?_
            refine RunD.ot0 (x := .v (.bool false)) rfl rfl rfl rfl (.pickF rfl rfl) rfl ?_
            refine RunD.ot0 (x := .v (.bool false)) rfl rfl rfl rfl (.moveX rfl) rfl ?_
            refine RunD.xn rfl rfl rfl rfl rfl rfl ?_
            refine RunD.xn rfl rfl rfl rfl rfl rfl ?_
            refine RunD.xn rfl rfl rfl rfl rfl rfl ?_
            refine RunD.ot0 (x := .v (.bool false)) rfl rfl rfl rfl (.pickF rfl rfl) rfl ?_
            refine RunD.ot0 (x := .v (.bool false)) rfl rfl rfl rfl (.moveX rfl) rfl ?_
            refine RunD.xn rfl rfl rfl rfl rfl rfl ?_
            refine RunD.xn rfl rfl rfl rfl rfl rfl ?_
            refine RunD.xn rfl rfl rfl rfl rfl rfl ?_
            refine RunD.xn rfl rfl rfl rfl rfl rfl ?_
            refine RunD.xn rfl rfl rfl rfl rfl rfl ?_
            refine RunD.ot0 (x := .v (.bool false)) rfl rfl rfl rfl (.pickF rfl rfl) rfl ?_
            refine RunD.ot0 (x := .v (.bool false)) rfl rfl rfl rfl (.assignX rfl) rfl ?_
            refine RunD.nil (by kernel_rfl) ⟨rfl, rfl, ?_⟩
            obtain rfl := si H
            refine T.sub (sub_to (st' := ⟨[(0, .v (.bool false))], [], 8, []⟩) [] (by decide) rfl rfl (⟨⟨_, rfl, .one .v⟩, trivial⟩) (trivial)) ?_
            refine T.ret ?_
            exact RetOk.same [.v (.bool false)] ⟨rfl, trivial⟩ rfl rfl rfl
        · replace H := cf H g62
          refine RunD.xn rfl rfl rfl (bo g62) rfl rfl ?_
          refine RunD.xn rfl rfl rfl (bo g62) rfl rfl ?_
          refine RunD.xn rfl rfl rfl (bo g62) rfl rfl ?_
          refine RunD.ot0 (x := .v (.bool false)) rfl rfl rfl rfl (.pickF (bo g62) rfl) rfl ?_
          refine RunD.ot0 (x := .v (.bool false)) rfl rfl rfl rfl (.moveX rfl) rfl ?_
          refine RunD.xn rfl rfl rfl rfl rfl rfl ?_
          refine RunD.xn rfl rfl rfl rfl rfl rfl ?_
          refine RunD.xn rfl rfl rfl rfl rfl rfl ?_
          refine RunD.xn rfl rfl rfl rfl rfl rfl ?_
          refine RunD.xn rfl rfl rfl rfl rfl rfl ?_
          refine RunD.ot0 (x := .v (.bool false)) rfl rfl rfl rfl (.pickF rfl rfl) rfl ?_
          refine RunD.ot0 (x := .v (.bool false)) rfl rfl rfl rfl (.moveX rfl) rfl ?_
          refine RunD.xn rfl rfl rfl rfl rfl rfl ?_
          refine RunD.xn rfl rfl rfl rfl rfl rfl ?_
          refine RunD.xn rfl rfl rfl rfl rfl rfl ?_
          refine RunD.xn rfl rfl rfl rfl rfl rfl ?_
          refine RunD.xn rfl rfl rfl rfl rfl rfl ?_
          refine RunD.xn rfl rfl rfl rfl rfl rfl ?_
          refine RunD.ot0 (x := .v (.bool false)) rfl rfl rfl rfl (.pickF rfl rfl) rfl ?_
          refine RunD.ot0 (x := .v (.bool false)) rfl rfl rfl rfl (.moveX rfl) rfl ?_
          refine RunD.xn rfl rfl rfl rfl rfl rfl ?_
          refine RunD.ot0 (x := .v (.bool false)) rfl rfl rfl rfl (.pickF rfl rfl) rfl ?_
          refine RunD.ot0 (x := .v (.bool false)) rfl rfl rfl rfl (.moveX rfl) rfl ?_
          refine RunD.xn rfl rfl rfl rfl rfl rfl ?_
          refine RunD.xn rfl rfl rfl rfl rfl rfl ?_
          refine RunD.xn rfl rfl rfl rfl rfl rfl ?_
          refine RunD.ot0 (x := .v (.bool false)) rfl rfl rfl rfl (.pickF rfl rfl) rfl ?_
          refine RunD.ot0 (x := .v (.bool false)) rfl rfl rfl rfl (.moveX rfl) rfl ?_
          refine RunD.xn rfl rfl rfl rfl rfl rfl ?_
          refine RunD.xn rfl rfl rfl rfl rfl rfl ?_
          refine RunD.xn rfl rfl rfl rfl rfl rfl ?_
          refine RunD.xn rfl rfl rfl rfl rfl rfl ?_
          refine RunD.ot0 (x := .v (.bool false)) rfl rfl rfl rfl (.pickF rfl rfl) rfl ?_
          refine RunD.ot0 (x := .v (.bool false)) rfl rfl rfl rfl (.moveX rfl) rfl ?_
          refine RunD.xn rfl rfl rfl rfl rfl rfl ?_
          refine RunD.xn rfl rfl rfl rfl rfl rfl ?_
          refine RunD.ot0 (x := .v (.bool false)) rfl rfl rfl rfl (.pickF rfl rfl) rfl ?_
          refine RunD.ot0 (x := .v (.bool false)) rfl rfl rfl rfl (.moveX rfl) rfl ?_
          refine RunD.xn rfl rfl rfl rfl rfl rfl ?_
          refine RunD.xn rfl rfl rfl rfl rfl rfl ?_
          refine RunD.xn rfl rfl rfl rfl rfl rfl ?_
          refine RunD.xn rfl rfl rfl rfl rfl rfl ?_
          refine RunD.ot0 (x := .v (.bool false)) rfl rfl rfl rfl (.pickF rfl rfl) rfl ?_
          refine RunD.ot0 (x := .v (.bool false)) rfl rfl rfl rfl (.moveX rfl) rfl ?_
          refine RunD.xn rfl rfl rfl rfl rfl rfl ?_
          refine RunD.xn rfl rfl rfl rfl rfl rfl ?_
          refine RunD.xn rfl rfl rfl rfl rfl rfl ?_
          refine RunD.xn rfl rfl rfl rfl rfl rfl ?_
          refine RunD.xn rfl rfl rfl rfl rfl rfl ?_
          refine RunD.ot0 (x := .v (.bool false)) rfl rfl rfl rfl (.pickF rfl rfl) rfl ?_
          refine RunD.ot0 (x := .v (.bool false)) rfl rfl rfl rfl (.moveX rfl) rfl ?_
          refine RunD.xn rfl rfl rfl rfl rfl rfl ?_
          refine RunD.xn rfl rfl rfl rfl rfl rfl ?_
          refine RunD.xn rfl rfl rfl rfl rfl rfl ?_
          refine RunD.ot0 (x := .v (.bool false)) rfl rfl rfl rfl (.pickF rfl rfl) rfl ?_
          refine RunD.ot0 (x := .v (.bool false)) rfl rfl rfl rfl (.moveX rfl) rfl ?_
          refine RunD.xn rfl rfl rfl rfl rfl rfl ?_
          refine RunD.xn rfl rfl rfl rfl rfl rfl ?_
          refine RunD.xn rfl rfl rfl rfl rfl rfl ?_
          refine RunD.xn rfl rfl rfl rfl rfl rfl ?_
          refine RunD.xn rfl rfl rfl rfl rfl rfl ?_
          refine RunD.ot0 (x := .v (.bool false)) rfl rfl rfl rfl (.pickF rfl rfl) rfl ?_
          refine RunD.ot0 (x := .v (.bool false)) rfl rfl rfl rfl (.assignX rfl) rfl ?_
          refine RunD.nil (by kernel_rfl) ⟨rfl, rfl, ?_⟩
          obtain rfl := si H
          refine T.sub (sub_to (st' := ⟨[(0, .v (.bool false))], [], 8, []⟩) [] (by decide) rfl rfl (⟨⟨_, rfl, .one .v⟩, trivial⟩) (trivial)) ?_
          refine T.ret ?_
          exact RetOk.same [.v (.bool false)] ⟨rfl, trivial⟩ rfl rfl rfl
      · replace H := cf H g59
        refine RunD.xn rfl rfl rfl (bo g59) rfl rfl ?_
        refine RunD.xn rfl rfl rfl (bo g59) rfl rfl ?_
        refine RunD.xn rfl rfl rfl (bo g59) rfl rfl ?_
        refine RunD.ot0 (x := .v (.bool false)) rfl rfl rfl rfl (.pickF (bo g59) rfl) rfl ?_
        refine RunD.ot0 (x := .v (.bool false)) rfl rfl rfl rfl (.moveX rfl) rfl ?_
        refine RunD.xn rfl rfl rfl rfl rfl rfl ?_
        refine RunD.xn rfl rfl rfl rfl rfl rfl ?_
        refine RunD.xn rfl rfl rfl rfl rfl rfl ?_
        refine RunD.ot0 (x := .v (.bool false)) rfl rfl rfl rfl (.pickF rfl rfl) rfl ?_
        refine RunD.ot0 (x := .v (.bool false)) rfl rfl rfl rfl (.moveX rfl) rfl ?_
        refine RunD.xn rfl rfl rfl rfl rfl rfl ?_
        refine RunD.xn rfl rfl rfl rfl rfl rfl ?_
        refine RunD.xn rfl rfl rfl rfl rfl rfl ?_
        refine RunD.xn rfl rfl rfl rfl rfl rfl ?_
        refine RunD.xn rfl rfl rfl rfl rfl rfl ?_
        refine RunD.ot0 (x := .v (.bool false)) rfl rfl rfl rfl (.pickF rfl rfl) rfl ?_
        refine RunD.ot0 (x := .v (.bool false)) rfl rfl rfl rfl (.moveX rfl) rfl ?_
        refine RunD.xn rfl rfl rfl rfl rfl rfl ?_
        refine RunD.xn rfl rfl rfl rfl rfl rfl ?_
        refine RunD.xn rfl rfl rfl rfl rfl rfl ?_
        refine RunD.xn rfl rfl rfl rfl rfl rfl ?_
        refine RunD.xn rfl rfl rfl rfl rfl rfl ?_
        refine RunD.xn rfl rfl rfl rfl rfl rfl ?_
        refine RunD.ot0 (x := .v (.bool false)) rfl rfl rfl rfl (.pickF rfl rfl) rfl ?_
        refine RunD.ot0 (x := .v (.bool false)) rfl rfl rfl rfl (.moveX rfl) rfl ?_
        refine RunD.xn rfl rfl rfl rfl rfl rfl ?_
        refine RunD.ot0 (x := .v (.bool false)) rfl rfl rfl rfl (.pickF rfl rfl) rfl ?_
        refine RunD.ot0 (x := .v (.bool false)) rfl rfl rfl rfl (.moveX rfl) rfl ?_
        refine RunD.xn rfl rfl rfl rfl rfl rfl ?_
        refine RunD.xn rfl rfl rfl rfl rfl rfl ?_
        refine RunD.xn rfl rfl rfl rfl rfl rfl ?_
        refine RunD.ot0 (x := .v (.bool false)) rfl rfl rfl rfl (.pickF rfl rfl) rfl ?_
        refine RunD.ot0 (x := .v (.bool false)) rfl rfl rfl rfl (.moveX rfl) rfl ?_
        refine RunD.xn rfl rfl rfl rfl rfl rfl ?_
        refine RunD.xn rfl rfl rfl rfl rfl rfl ?_
        refine RunD.xn rfl rfl rfl rfl rfl rfl ?_
        refine RunD.xn rfl rfl rfl rfl rfl rfl ?_
        refine RunD.ot0 (x := .v (.bool false)) rfl rfl rfl rfl (.pickF rfl rfl) rfl ?_
        refine RunD.ot0 (x := .v (.bool false)) rfl rfl rfl rfl (.moveX rfl) rfl ?_
        refine RunD.xn rfl rfl rfl rfl rfl rfl ?_
        refine RunD.xn rfl rfl rfl rfl rfl rfl ?_
        refine RunD.ot0 (x := .v (.bool false)) rfl rfl rfl rfl (.pickF rfl rfl) rfl ?_
        refine RunD.ot0 (x := .v (.bool false)) rfl rfl rfl rfl (.moveX rfl) rfl ?_
        refine RunD.xn rfl rfl rfl rfl rfl rfl ?_
        refine RunD.xn rfl rfl rfl rfl rfl rfl ?_
        refine RunD.xn rfl rfl rfl rfl rfl rfl ?_
        refine RunD.xn rfl rfl rfl rfl rfl rfl ?_
        refine RunD.ot0 (x := .v (.bool false)) rfl rfl rfl rfl (.pickF rfl rfl) rfl ?_
        refine RunD.ot0 (x := .v (.bool false)) rfl rfl rfl rfl (.moveX rfl) rfl ?_
        refine RunD.xn rfl rfl rfl rfl rfl rfl ?_
        refine RunD.xn rfl rfl rfl rfl rfl rfl ?_
        refine RunD.xn rfl rfl rfl rfl rfl rfl ?_
        refine RunD.xn rfl rfl rfl rfl rfl rfl ?_
        refine RunD.xn rfl rfl rfl rfl rfl rfl ?_
        refine RunD.ot0 (x := .v (.bool false)) rfl rfl rfl rfl (.pickF rfl rfl) rfl ?_
        refine RunD.ot0 (x := .v (.bool false)) rfl rfl rfl rfl (.moveX rfl) rfl ?_
        refine RunD.xn rfl rfl rfl rfl rfl rfl ?_
        refine RunD.xn rfl rfl rfl rfl rfl rfl ?_
        refine RunD.xn rfl rfl rfl rfl rfl rfl ?_
        refine RunD.ot0 (x := .v (.bool false)) rfl rfl rfl rfl (.pickF rfl rfl) rfl ?_
        refine RunD.ot0 (x := .v (.bool false)) rfl rfl rfl rfl (.moveX rfl) rfl ?_
        refine RunD.xn rfl rfl rfl rfl rfl rfl ?_
        refine RunD.xn rfl rfl rfl rfl rfl rfl ?_
        refine RunD.xn rfl rfl rfl rfl rfl rfl ?_
        refine RunD.xn rfl rfl rfl rfl rfl rfl ?_
        refine RunD.xn rfl rfl rfl rfl rfl rfl ?_
        refine RunD.ot0 (x := .v (.bool false)) rfl rfl rfl rfl (.pickF rfl rfl) rfl ?_
        refine RunD.ot0 (x := .v (.bool false)) rfl rfl rfl rfl (.assignX rfl) rfl ?_
        refine RunD.nil (by kernel_rfl) ⟨rfl, rfl, ?_⟩
        obtain rfl := si H
        refine T.sub (sub_to (st' := ⟨[(0, .v (.bool false))], [], 8, []⟩) [] (by decide) rfl rfl (⟨⟨_, rfl, .one .v⟩, trivial⟩) (trivial)) ?_
        refine T.ret ?_
        exact RetOk.same [.v (.bool false)] ⟨rfl, trivial⟩ rfl rfl rfl
    · replace H := cf H g56
      refine RunD.xn rfl rfl rfl (bo g56) rfl rfl ?_
      refine RunD.xn rfl rfl rfl (bo g56) rfl rfl ?_
      refine RunD.xn rfl rfl rfl (bo g56) rfl rfl ?_
      refine RunD.ot0 (x := .v (.bool false)) rfl rfl rfl rfl (.pickF (bo g56) rfl) rfl ?_
      refine RunD.ot0 (x := .v (.bool false)) rfl rfl rfl rfl (.moveX rfl) rfl ?_
      refine RunD.xn rfl rfl rfl rfl rfl rfl ?_
      refine RunD.xn rfl rfl rfl rfl rfl rfl ?_
      refine RunD.xn rfl rfl rfl rfl rfl rfl ?_
      refine RunD.ot0 (x := .v (.bool false)) rfl rfl rfl rfl (.pickF rfl rfl) rfl ?_
      refine RunD.ot0 (x := .v (.bool false)) rfl rfl rfl rfl (.moveX rfl) rfl ?_
      refine RunD.xn rfl rfl rfl rfl rfl rfl ?_
      refine RunD.xn rfl rfl rfl rfl rfl rfl ?_
      refine RunD.xn rfl rfl rfl rfl rfl rfl ?_
      refine RunD.ot0 (x := .v (.bool false)) rfl rfl rfl rfl (.pickF rfl rfl) rfl ?_
      refine RunD.ot0 (x := .v (.bool false)) rfl rfl rfl rfl (.moveX rfl) rfl ?_
      refine RunD.xn rfl rfl rfl rfl rfl rfl ?_
      refine RunD.xn rfl rfl rfl rfl rfl rfl ?_
      refine RunD.xn rfl rfl rfl rfl rfl rfl ?_
      refine RunD.xn rfl rfl rfl rfl rfl rfl ?_
      refine RunD.xn rfl rfl rfl rfl rfl rfl ?_
      refine RunD.ot0 (x := .v (.bool false)) rfl rfl rfl rfl (.pickF rfl rfl) rfl ?_
      refine RunD.ot0 (x := .v (.bool false)) rfl rfl rfl rfl (.moveX rfl) rfl ?_
      refine RunD.xn rfl rfl rfl rfl rfl rfl ?_
      refine RunD.xn rfl rfl rfl rfl rfl rfl ?_
      refine RunD.xn rfl rfl rfl rfl rfl rfl ?_
      refine RunD.xn rfl rfl rfl rfl rfl rfl ?_
      refine RunD.xn rfl rfl rfl rfl rfl rfl ?_
      refine RunD.xn rfl rfl rfl rfl rfl rfl ?_
      refine RunD.ot0 (x := .v (.bool false)) rfl rfl rfl rfl (.pickF rfl rfl) rfl ?_
      refine RunD.ot0 (x := .v (.bool false)) rfl rfl rfl rfl (.moveX rfl) rfl ?_
      refine RunD.xn rfl rfl rfl rfl rfl rfl ?_
      refine RunD.ot0 (x := .v (.bool false)) rfl rfl rfl rfl (.pickF rfl rfl) rfl ?_
      refine RunD.ot0 (x := .v (.bool false)) rfl rfl rfl rfl (.moveX rfl) rfl ?_
      refine RunD.xn rfl rfl rfl rfl rfl rfl ?_
      refine RunD.xn rfl rfl rfl rfl rfl rfl ?_
      refine RunD.xn rfl rfl rfl rfl rfl rfl ?_
      refine RunD.ot0 (x := .v (.bool false)) rfl rfl rfl rfl (.pickF rfl rfl) rfl ?_
      refine RunD.ot0 (x := .v (.bool false)) rfl rfl rfl rfl (.moveX rfl) rfl ?_
      refine RunD.xn rfl rfl rfl rfl rfl rfl ?_
      refine RunD.xn rfl rfl rfl rfl rfl rfl ?_
      refine RunD.xn rfl rfl rfl rfl rfl rfl ?_
      refine RunD.xn rfl rfl rfl rfl rfl rfl ?_
      refine RunD.ot0 (x := .v (.bool false)) rfl rfl rfl rfl (.pickF rfl rfl) rfl ?_
      refine RunD.ot0 (x := .v (.bool false)) rfl rfl rfl rfl (.moveX rfl) rfl ?_
      refine RunD.xn rfl rfl rfl rfl rfl rfl ?_
      refine RunD.xn rfl rfl rfl rfl rfl rfl ?_
      refine RunD.ot0 (x := .v (.bool false)) rfl rfl rfl rfl (.pickF rfl rfl) rfl ?_
      refine RunD.ot0 (x := .v (.bool false)) rfl rfl rfl rfl (.moveX rfl) rfl ?_
      refine RunD.xn rfl rfl rfl rfl rfl rfl ?_
      refine RunD.xn rfl rfl rfl rfl rfl rfl ?_
      refine RunD.xn rfl rfl rfl rfl rfl rfl ?_
      refine RunD.xn rfl rfl rfl rfl rfl rfl ?_
      refine RunD.ot0 (x := .v (.bool false)) rfl rfl rfl rfl (.pickF rfl rfl) rfl ?_
      refine RunD.ot0 (x := .v (.bool false)) rfl rfl rfl rfl (.moveX rfl) rfl ?_
      refine RunD.xn rfl rfl rfl rfl rfl rfl ?_
      refine RunD.xn rfl rfl rfl rfl rfl rfl ?_
      refine RunD.xn rfl rfl rfl rfl rfl rfl ?_
      refine RunD.xn rfl rfl rfl rfl rfl rfl ?_
      refine RunD.xn rfl rfl rfl rfl rfl rfl ?_
      refine RunD.ot0 (x := .v (.bool false)) rfl rfl rfl rfl (.pickF rfl rfl) rfl ?_
      refine RunD.ot0 (x := .v (.bool false)) rfl rfl rfl rfl (.moveX rfl) rfl ?_
      refine RunD.xn rfl rfl rfl rfl rfl rfl ?_
      refine RunD.xn rfl rfl rfl rfl rfl rfl ?_
      refine RunD.xn rfl rfl rfl rfl rfl rfl ?_
      refine RunD.ot0 (x := .v (.bool false)) rfl rfl rfl rfl (.pickF rfl rfl) rfl ?_
      refine RunD.ot0 (x := .v (.bool false)) rfl rfl rfl rfl (.moveX rfl) rfl ?_
      refine RunD.xn rfl rfl rfl rfl rfl rfl ?_
      refine RunD.xn rfl rfl rfl rfl rfl rfl ?_
      refine RunD.xn rfl rfl rfl rfl rfl rfl ?_
      refine RunD.xn rfl rfl rfl rfl rfl rfl ?_
      refine RunD.xn rfl rfl rfl rfl rfl rfl ?_
      refine RunD.ot0 (x := .v (.bool false)) rfl rfl rfl rfl (.pickF rfl rfl) rfl ?_
      refine RunD.ot0 (x := .v (.bool false)) rfl rfl rfl rfl (.assignX rfl) rfl ?_
      refine RunD.nil (by kernel_rfl) ⟨rfl, rfl, ?_⟩
      obtain rfl := si H
      refine T.sub (sub_to (st' := ⟨[(0, .v (.bool false))], [], 8, []⟩) [] (by decide) rfl rfl (⟨⟨_, rfl, .one .v⟩, trivial⟩) (trivial)) ?_
      refine T.ret ?_
      exact RetOk.same [.v (.bool false)] ⟨rfl, trivial⟩ rfl rfl rfl
  · replace H := cf H g53
    refine RunD.xn rfl rfl rfl (bo g53) rfl rfl ?_
    refine RunD.xn rfl rfl rfl (bo g53) rfl rfl ?_
    refine RunD.xn rfl rfl rfl (bo g53) rfl rfl ?_
    refine RunD.ot0 (x := .v (.bool false)) rfl rfl rfl rfl (.pickF (bo g53) rfl) rfl ?_
    refine RunD.ot0 (x := .v (.bool false)) rfl rfl rfl rfl (.moveX rfl) rfl ?_
    refine RunD.xn rfl rfl rfl rfl rfl rfl ?_
    refine RunD.xn rfl rfl rfl rfl rfl rfl ?_
    refine RunD.xn rfl rfl rfl rfl rfl rfl ?_
    refine RunD.ot0 (x := .v (.bool false)) rfl rfl rfl rfl (.pickF rfl rfl) rfl ?_
    refine RunD.ot0 (x := .v (.bool false)) rfl rfl rfl rfl (.moveX rfl) rfl ?_
    refine RunD.xn rfl rfl rfl rfl rfl rfl ?_
    refine RunD.xn rfl rfl rfl rfl rfl rfl ?_
    refine RunD.xn rfl rfl rfl rfl rfl rfl ?_
    refine RunD.ot0 (x := .v (.bool false)) rfl rfl rfl rfl (.pickF rfl rfl) rfl ?_
    refine RunD.ot0 (x := .v (.bool false)) rfl rfl rfl rfl (.moveX rfl) rfl ?_
    refine RunD.xn rfl rfl rfl rfl rfl rfl ?_
    refine RunD.xn rfl rfl rfl rfl rfl rfl ?_
    refine RunD.xn rfl rfl rfl rfl rfl rfl ?_
    refine RunD.ot0 (x := .v (.bool false)) rfl rfl rfl rfl (.pickF rfl rfl) rfl ?_
    refine RunD.ot0 (x := .v (.bool false)) rfl rfl rfl rfl (.moveX rfl) rfl ?_
    refine RunD.xn rfl rfl rfl rfl rfl rfl ?_
    refine RunD.xn rfl rfl rfl rfl rfl rfl ?_
    refine RunD.xn rfl rfl rfl rfl rfl rfl ?_
    refine RunD.xn rfl rfl rfl rfl rfl rfl ?_
    refine RunD.xn rfl rfl rfl rfl rfl rfl ?_
    refine RunD.ot0 (x := .v (.bool false)) rfl rfl rfl rfl (.pickF rfl rfl) rfl ?_
    refine RunD.ot0 (x := .v (.bool false)) rfl rfl rfl rfl (.moveX rfl) rfl ?_
    refine RunD.xn rfl rfl rfl rfl rfl rfl ?_
    refine RunD.xn rfl rfl rfl rfl rfl rfl ?_
    refine RunD.xn rfl rfl rfl rfl rfl rfl ?_
    refine RunD.xn rfl rfl rfl rfl rfl rfl ?_
    refine RunD.xn rfl rfl rfl rfl rfl rfl ?_
    refine RunD.xn rfl rfl rfl rfl rfl rfl ?_
    refine RunD.ot0 (x := .v (.bool false)) rfl rfl rfl rfl (.pickF rfl rfl) rfl ?_
    refine RunD.ot0 (x := .v (.bool false)) rfl rfl rfl rfl (.moveX rfl) rfl ?_
    refine RunD.xn rfl rfl rfl rfl rfl rfl ?_
    refine RunD.ot0 (x := .v (.bool false)) rfl rfl rfl rfl (.pickF rfl rfl) rfl ?_
    refine RunD.ot0 (x := .v (.bool false)) rfl rfl rfl rfl (.moveX rfl) rfl ?_
    refine RunD.xn rfl rfl rfl rfl rfl rfl ?_
    refine RunD.xn rfl rfl rfl rfl rfl rfl ?_
    refine RunD.xn rfl rfl rfl rfl rfl rfl ?_
    refine RunD.ot0 (x := .v (.bool false)) rfl rfl rfl rfl (.pickF rfl rfl) rfl ?_
    refine RunD.ot0 (x := .v (.bool false)) rfl rfl rfl rfl (.moveX rfl) rfl ?_
    refine RunD.xn rfl rfl rfl rfl rfl rfl ?_
    refine RunD.xn rfl rfl rfl rfl rfl rfl ?_
    refine RunD.xn rfl rfl rfl rfl rfl rfl ?_
    refine RunD.xn rfl rfl rfl rfl rfl rfl ?_
    refine RunD.ot0 (x := .v (.bool false)) rfl rfl rfl rfl (.pickF rfl rfl) rfl ?_
    refine RunD.ot0 (x := .v (.bool false)) rfl rfl rfl rfl (.moveX rfl) rfl ?_
    refine RunD.xn rfl rfl rfl rfl rfl rfl ?_
    refine RunD.xn rfl rfl rfl rfl rfl rfl ?_
    refine RunD.ot0 (x := .v (.bool false)) rfl rfl rfl rfl (.pickF rfl rfl) rfl ?_
    refine RunD.ot0 (x := .v (.bool false)) rfl rfl rfl rfl (.moveX rfl) rfl ?_
    refine RunD.xn rfl rfl rfl rfl rfl rfl ?_
    refine RunD.xn rfl rfl rfl rfl rfl rfl ?_
    refine RunD.xn rfl rfl rfl rfl rfl rfl ?_
    refine RunD.xn rfl rfl rfl rfl rfl rfl ?_
    refine RunD.ot0 (x := .v (.bool false)) rfl rfl rfl rfl (.pickF rfl rfl) rfl ?_
    refine RunD.ot0 (x := .v (.bool false)) rfl rfl rfl rfl (.moveX rfl) rfl ?_
    refine RunD.xn rfl rfl rfl rfl rfl rfl ?_
    refine RunD.xn rfl rfl rfl rfl rfl rfl ?_
    refine RunD.xn rfl rfl rfl rfl rfl rfl ?_
    refine RunD.xn rfl rfl rfl rfl rfl rfl ?_
    refine RunD.xn rfl rfl rfl rfl rfl rfl ?_
    refine RunD.ot0 (x := .v (.bool false)) rfl rfl rfl rfl (.pickF rfl rfl) rfl ?_
    refine RunD.ot0 (x := .v (.bool false)) rfl rfl rfl rfl (.moveX rfl) rfl ?_
    refine RunD.xn rfl rfl rfl rfl rfl rfl ?_
    refine RunD.xn rfl rfl rfl rfl rfl rfl ?_
    refine RunD.xn rfl rfl rfl rfl rfl rfl ?_
    refine RunD.ot0 (x := .v (.bool false)) rfl rfl rfl rfl (.pickF rfl rfl) rfl ?_
    refine RunD.ot0 (x := .v (.bool false)) rfl rfl rfl rfl (.moveX rfl) rfl ?_
    refine RunD.xn rfl rfl rfl rfl rfl rfl ?_
    refine RunD.xn rfl rfl rfl rfl rfl rfl ?_
    refine RunD.xn rfl rfl rfl rfl rfl rfl ?_
    refine RunD.xn rfl rfl rfl rfl rfl rfl ?_
    refine RunD.xn rfl rfl rfl rfl rfl rfl ?_
    refine RunD.ot0 (x := .v (.bool false)) rfl rfl rfl rfl (.pickF rfl rfl) rfl ?_
    refine RunD.ot0 (x := .v (.bool false)) rfl rfl rfl rfl (.assignX rfl) rfl ?_
    refine RunD.nil (by kernel_rfl) ⟨rfl, rfl, ?_⟩
    obtain rfl := si H
    refine T.sub (sub_to (st' := ⟨[(0, .v (.bool false))], [], 8, []⟩) [] (by decide) rfl rfl (⟨⟨_, rfl, .one .v⟩, trivial⟩) (trivial)) ?_
    refine T.ret ?_
    exact RetOk.same [.v (.bool false)] ⟨rfl, trivial⟩ rfl rfl rfl
end Go.Proofs.Ytlfpkjlaajfjnaa
