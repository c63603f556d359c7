/- The Go functions come to just what their plain forms come to: one contract each. -/
import Derived.Test.YtlfpkjlaajfjnaaYKillMore0
set_option linter.unusedVariables false
set_option linter.unusedSimpArgs false
set_option maxRecDepth 100000
namespace Go.Proofs.Ytlfpkjlaajfjnaa
open Go Go.Sh Go.Px
attribute [local irreducible] Go.Sh.T Go.Sh.RunT Go.Sh.RunD
set_option maxHeartbeats 4000000 in
theorem kill_By_pc (al : Bool) (k : Nat) (a0 : Venue) (a1 : Int) (o : (List Int)) (H : kill_By k a0 a1 = some o) : PC Try.prog al 56 [.agg [.lst (List.map eSeat a0.Seats), .v (.int .i64 a0.Gap), .v (.int .i64 a0.Radius), .lst (List.map eI a0.Kills), .lst (List.map ePole a0.Poles)], .v (.int .i64 a1)] (.frs 1 (List.map eI o)) := by
  unfold kill_By at H
  refine PC.of_T Try.func56 rfl rfl (n := 21) rfl rfl (.inr (flat1_frs (sz := 1) fl_I)) ?_
  intro base B w0
  refine T.st (st' := ⟨[(0, .agg [.lst (List.map eSeat a0.Seats), .v (.int .i64 a0.Gap), .v (.int .i64 a0.Radius), .lst (List.map eI a0.Kills), .lst (List.map ePole a0.Poles)]), (1, .v (.int .i64 a1))], [], 0, []⟩) rfl ?_
  refine T.seq ?_
  refine T.region ?_
  refine RunT.ot1 (x := .ptr 0 0) (p0 := (0, some (.box [.lst (List.map eSeat a0.Seats), .v (.int .i64 a0.Gap), .v (.int .i64 a0.Radius), .lst (List.map eI a0.Kills), .lst (List.map ePole a0.Poles)]))) (n' := 8) rfl rfl rfl rfl (.boxX rfl rfl rfl) rfl ?_
  refine RunT.ot0 (x := .v (.slice none 0 0)) rfl rfl rfl rfl (.assignX rfl) ?_
  refine RunT.nil ?_
  obtain ⟨o6, E7, HO8⟩ := bs H
  refine T.cutP (fun v9 => o6 = .go v9) (fun v9 => ⟨[(1, .v (.int .i64 a1)), (2, .ptr 0 0)], [(0, some (.box [.lst (List.map eSeat a0.Seats), .v (.int .i64 a0.Gap), .v (.int .i64 a0.Radius), .lst (List.map eI a0.Kills), .lst (List.map ePole a0.Poles)]))], 8, []⟩) ?_ ?_
  · have H := E7
    refine T.block ?_
    refine T.seq ?_
    refine T.block ?_
    refine T.seq ?_
    refine T.block ?_
    refine T.block ?_
    refine T.seq ?_
    refine T.seq ?_
    refine T.seq ?_
    refine T.region ?_
    refine RunT.ot0 (x := .v (.int .i64 a1)) rfl rfl rfl rfl (.moveX rfl) ?_
    refine RunT.ot0 (x := .v (.bool (decide (a1 < 0)))) rfl rfl rfl rfl (.bin rfl rfl (fun w => b_lss w) rfl) ?_
    refine RunT.ot0 (x := .v (.bool (decide (a1 < 0)))) rfl rfl rfl rfl (.assignX rfl) ?_
    refine RunT.nil ?_
    refine T.cond2 (t := decide (a1 < 0)) rfl (fun c10 => ?_) (fun c10 => ?_)
    · replace H := ct H c10
      refine T.exit ?_
      refine T.seq ?_
      refine T.seq ?_
      refine T.region ?_
      refine RunT.ot0 (x := .v (.slice none 0 0)) rfl rfl rfl rfl (.assignX rfl) ?_
      refine RunT.nil ?_
      obtain rfl := si H
      have HX := exr HO8
      obtain rfl := si HX
      refine T.sub (sub_to (st' := ⟨[(4, .own 0 0 0)], [(0, some (.arr false 1 (List.map eI [])))], 8, []⟩) [none] (by decide) rfl rfl (⟨⟨_, rfl, .one .nilO⟩, trivial⟩) (⟨⟨rfl, .inr ⟨rfl, false, _, rfl, (by decide)⟩⟩, trivial⟩)) ?_
      refine T.ret ?_
      exact RetOk.same [.own 0 0 0] ⟨rfl, trivial⟩ rfl rfl rfl
    · replace H := cf H c10
      refine T.skip ?_
      refine T.seq ?_
      refine T.seq ?_
      refine T.region ?_
      refine RunT.ot0 (x := .v (.int .i64 a1)) rfl rfl rfl rfl (.moveX rfl) ?_
      refine RunT.ot0 (x := .ptr 0 0) rfl rfl rfl rfl (.fieldPX fl26_0 rfl rfl) ?_
      refine RunT.ot0 (x := .lst (List.map eSeat a0.Seats)) rfl rfl rfl rfl (.loadP ty22 rfl rfl rfl) ?_
      refine RunT.ot0 (x := .v (.int .i64 (a0.Seats.length : Int))) rfl rfl rfl rfl (.lenLm Try.underlying22 rfl rfl) ?_
      refine RunT.ot0 (x := .v (.bool (decide ((a0.Seats.length : Int) ≤ a1)))) rfl rfl rfl rfl (.bin rfl rfl (fun w => b_geq w) rfl) ?_
      refine RunT.ot0 (x := .v (.bool (decide ((a0.Seats.length : Int) ≤ a1)))) rfl rfl rfl rfl (.assignX rfl) ?_
      refine RunT.nil ?_
      refine T.cond2 (t := decide ((a0.Seats.length : Int) ≤ a1)) rfl (fun c11 => ?_) (fun c11 => ?_)
      · replace H := ct H c11
        refine T.exit ?_
        refine T.seq ?_
        refine T.seq ?_
        refine T.region ?_
        refine RunT.ot0 (x := .v (.slice none 0 0)) rfl rfl rfl rfl (.assignX rfl) ?_
        refine RunT.nil ?_
        obtain rfl := si H
        have HX := exr HO8
        obtain rfl := si HX
        refine T.sub (sub_to (st' := ⟨[(4, .own 0 0 0)], [(0, some (.arr false 1 (List.map eI [])))], 8, []⟩) [none] (by decide) rfl rfl (⟨⟨_, rfl, .one .nilO⟩, trivial⟩) (⟨⟨rfl, .inr ⟨rfl, false, _, rfl, (by decide)⟩⟩, trivial⟩)) ?_
        refine T.ret ?_
        exact RetOk.same [.own 0 0 0] ⟨rfl, trivial⟩ rfl rfl rfl
      · replace H := cf H c11
        refine T.skip ?_
        refine T.seq ?_
        refine T.region ?_
        refine RunT.ot0 (x := .agg [.lst (List.map eSeat a0.Seats), .v (.int .i64 a0.Gap), .v (.int .i64 a0.Radius), .lst (List.map eI a0.Kills), .lst (List.map ePole a0.Poles)]) rfl rfl rfl rfl (.loadP ty26 rfl rfl rfl) ?_
        obtain ⟨r12, h13, H⟩ := bs H
        refine RunT.ot0 (x := .v (.bool r12)) rfl rfl rfl rfl (.callp (venue_May_pc false k a0 r12 h13) rfl ⟨(.agg' ⟨.lst, .v, .v, .lst, .lst, trivial⟩), trivial⟩ rfl rfl rfl) ?_
        refine RunT.ot0 (x := .v (.bool (!r12))) rfl rfl rfl rfl (.un rfl (fun w => u_not w) rfl) ?_
        refine RunT.ot0 (x := .v (.bool (!r12))) rfl rfl rfl rfl (.assignX rfl) ?_
        refine RunT.nil ?_
        refine T.cond2 (t := !r12) rfl (fun c14 => ?_) (fun c14 => ?_)
        · replace H := ct H c14
          refine T.exit ?_
          refine T.seq ?_
          refine T.seq ?_
          refine T.sub (sub_pick [] [] (st' := ⟨[], [], 8, []⟩) rfl rfl rfl rfl rfl) ?_
          refine T.region ?_
          refine RunT.ot0 (x := .v (.slice none 0 0)) rfl rfl rfl rfl (.assignX rfl) ?_
          refine RunT.nil ?_
          obtain rfl := si H
          have HX := exr HO8
          obtain rfl := si HX
          refine T.sub (sub_to (st' := ⟨[(4, .own 0 0 0)], [(0, some (.arr false 1 (List.map eI [])))], 8, []⟩) [none] (by decide) rfl rfl (⟨⟨_, rfl, .one .nilO⟩, trivial⟩) (⟨⟨rfl, .inr ⟨rfl, false, _, rfl, (by decide)⟩⟩, trivial⟩)) ?_
          refine T.ret ?_
          exact RetOk.same [.own 0 0 0] ⟨rfl, trivial⟩ rfl rfl rfl
        · replace H := cf H c14
          refine T.skip ?_
          refine T.exit ?_
          obtain rfl := si H
          exact ⟨_, rfl, (sub_to [some 0] (by decide) rfl rfl (⟨⟨_, rfl, .one .v⟩, ⟨⟨_, rfl, .one (.ptr rfl)⟩, trivial⟩⟩) (⟨⟨rfl, .inl ⟨_, _, rfl, rfl, .box ⟨.lst, .v, .v, .lst, .lst, trivial⟩⟩⟩, trivial⟩))⟩
  · intro v9 hR 
    subst hR
    have H := exg HO8
    refine T.seq ?_
    refine T.region ?_
    refine RunT.ot0 (x := .agg [.lst (List.map eSeat a0.Seats), .v (.int .i64 a0.Gap), .v (.int .i64 a0.Radius), .lst (List.map eI a0.Kills), .lst (List.map ePole a0.Poles)]) rfl rfl rfl rfl (.loadP ty26 rfl rfl rfl) ?_
    refine RunT.ot0 (x := .v (.int .i64 a1)) rfl rfl rfl rfl (.moveX rfl) ?_
    obtain ⟨r15, h16, H⟩ := bs H
    refine RunT.ot1 (x := .own 8 0 ((List.map eI r15).length)) (p0 := (8, some (.arr false 1 (List.map eI r15)))) (n' := 16) rfl rfl rfl rfl (.callp (kill_by_pc false k a0 a1 r15 h16) rfl ⟨(.agg' ⟨.lst, .v, .v, .lst, .lst, trivial⟩), (.one .v), trivial⟩ rfl rfl rfl) rfl ?_
    refine RunT.ot0 (x := .own 8 0 ((List.map eI r15).length)) rfl rfl rfl rfl (.assignX rfl) ?_
    refine RunT.nil ?_
    obtain rfl := si H
    refine T.sub (sub_to (st' := ⟨[(4, .own 0 0 ((List.map eI r15).length))], [(0, some (.arr false 1 (List.map eI r15)))], 8, []⟩) [some 8] (by decide) rfl rfl (⟨⟨_, rfl, .one (.own' rfl ((List.length_map _).trans (List.length_map _).symm))⟩, trivial⟩) (⟨⟨rfl, .inl ⟨_, _, rfl, rfl, .arr rfl⟩⟩, trivial⟩)) ?_
    refine T.ret ?_
    exact RetOk.same [.own 0 0 ((List.map eI r15).length)] ⟨rfl, trivial⟩ rfl rfl rfl
set_option maxHeartbeats 4000000 in
theorem law8_told_pc (al : Bool) (k : Nat)  (o : Bool) (H : law8_told k  = some o) : PC Try.prog al 51 [] (.v (.bool o)) := by
  unfold law8_told at H
  refine PC.of_T Try.func51 rfl rfl (n := 80) rfl rfl (.inr rfl) ?_
  intro base B w0
  refine T.st (st' := ⟨[], [], 0, []⟩) rfl ?_
  refine T.seq ?_
  refine T.region ?_
  refine RunT.ot0 (x := .v (.bool false)) rfl rfl rfl rfl (.assignX rfl) ?_
  refine RunT.nil ?_
  refine T.seq ?_
  refine T.region ?_
  refine RunT.ot0 (x := .agg [.v (.int .i64 0), .v (.int .i64 0), .v (.int .i64 0), .v (.int .i64 0)]) rfl rfl rfl rfl (.bu bu28 rfl) ?_
  refine RunT.ot0 (x := .agg [.v (.int .i64 0), .v (.int .i64 3), .v (.int .i64 0), .v (.int .i64 0)]) rfl rfl rfl rfl (.bu bu28 rfl) ?_
  refine RunT.ot0 (x := .agg [.v (.int .i64 0), .v (.int .i64 9), .v (.int .i64 0), .v (.int .i64 0)]) rfl rfl rfl rfl (.bu bu28 rfl) ?_
  refine RunT.ot1 (x := .own 0 0 (([Seat.mk 0 0 0 0, Seat.mk 0 3 0 0, Seat.mk 0 9 0 0]).length)) (p0 := (0, some (.arr false 4 (List.map eSeat [Seat.mk 0 0 0 0, Seat.mk 0 3 0 0, Seat.mk 0 9 0 0])))) (n' := 8) rfl rfl rfl rfl (.bslicem (d := false) (l := [Seat.mk 0 0 0 0, Seat.mk 0 3 0 0, Seat.mk 0 9 0 0]) (f := eSeat) sl22 rfl rfl rfl enc_Seat rfl) rfl ?_
  refine RunT.ot1 (x := .own 8 0 (([2]).length)) (p0 := (8, some (.arr false 1 (List.map eI [2])))) (n' := 16) rfl rfl rfl rfl (.bslicem (d := false) (l := [2]) (f := eI) sl23 rfl rfl rfl enc_I rfl) rfl ?_
  refine RunT.ot0 (x := .agg [.v (.int .i64 0), .v (.int .i64 0), .v (.int .i64 3)]) rfl rfl rfl rfl (.bu bu60 rfl) ?_
  refine RunT.ot0 (x := .agg [.v (.int .i64 9), .v (.int .i64 0), .v (.int .i64 1)]) rfl rfl rfl rfl (.bu bu60 rfl) ?_
  refine RunT.ot1 (x := .own 16 0 (([Pole.mk 0 0 3, Pole.mk 9 0 1]).length)) (p0 := (16, some (.arr false 3 (List.map ePole [Pole.mk 0 0 3, Pole.mk 9 0 1])))) (n' := 24) rfl rfl rfl rfl (.bslicem (d := false) (l := [Pole.mk 0 0 3, Pole.mk 9 0 1]) (f := ePole) sl24 rfl rfl rfl enc_Pole rfl) rfl ?_
  refine RunT.ot0 (x := .agg [.own 0 0 (([Seat.mk 0 0 0 0, Seat.mk 0 3 0 0, Seat.mk 0 9 0 0]).length), .v (.int .i64 1), .v (.int .i64 0), .own 8 0 (([2]).length), .own 16 0 (([Pole.mk 0 0 3, Pole.mk 9 0 1]).length)]) rfl rfl rfl rfl (.bu bu26 rfl) ?_
  refine RunT.ot1 (x := .ptr 24 0) (p0 := (24, some (.box [.v (.slice none 0 0), .v (.int .i64 0), .v (.int .i64 0), .v (.slice none 0 0), .v (.slice none 0 0)]))) (n' := 32) rfl rfl rfl rfl (.allocX in26.zero rfl rfl) rfl ?_
  refine RunT.on1 (x := .junk) (p0 := (24, some (.box [.own 0 0 (([Seat.mk 0 0 0 0, Seat.mk 0 3 0 0, Seat.mk 0 9 0 0]).length), .v (.int .i64 1), .v (.int .i64 0), .own 8 0 (([2]).length), .own 16 0 (([Pole.mk 0 0 3, Pole.mk 9 0 1]).length)]))) (n' := 40) rfl rfl rfl (.storePX ty26 rfl rfl rfl rfl rfl rfl rfl) rfl ?_
  refine RunT.nil ?_
  refine T.seq ?_
  refine T.region ?_
  refine RunT.ot0 (x := .agg [.own 0 0 (([Seat.mk 0 0 0 0, Seat.mk 0 3 0 0, Seat.mk 0 9 0 0]).length), .v (.int .i64 1), .v (.int .i64 0), .own 8 0 (([2]).length), .own 16 0 (([Pole.mk 0 0 3, Pole.mk 9 0 1]).length)]) rfl rfl rfl rfl (.loadP ty26 rfl rfl rfl) ?_
  obtain ⟨r1, h2, H⟩ := bs H
  refine RunT.ot0 (x := .lst (List.map eB r1)) rfl rfl rfl rfl (.callp (PC.frozen (kill_Usable_pc false k (Venue.mk [Seat.mk 0 0 0 0, Seat.mk 0 3 0 0, Seat.mk 0 9 0 0] 1 0 [2] [Pole.mk 0 0 3, Pole.mk 9 0 1]) r1 h2)) rfl ⟨(.agg' ⟨(.all rfl (List.length_map _).symm), .v, .v, (.all rfl (List.length_map _).symm), (.all rfl (List.length_map _).symm), trivial⟩), trivial⟩ rfl rfl rfl) ?_
  refine RunT.ot0 (x := .lst (List.map eB r1)) rfl rfl rfl rfl (.assignX rfl) ?_
  refine RunT.nil ?_
  refine T.seq ?_
  refine T.region ?_
  refine RunT.ot0 (x := .agg [.own 0 0 (([Seat.mk 0 0 0 0, Seat.mk 0 3 0 0, Seat.mk 0 9 0 0]).length), .v (.int .i64 1), .v (.int .i64 0), .own 8 0 (([2]).length), .own 16 0 (([Pole.mk 0 0 3, Pole.mk 9 0 1]).length)]) rfl rfl rfl rfl (.loadP ty26 rfl rfl rfl) ?_
  obtain ⟨r3, h4, H⟩ := bs H
  refine RunT.ot0 (x := .lst (List.map eI r3)) rfl rfl rfl rfl (.callp (PC.frozen (kill_Killed_pc false k (Venue.mk [Seat.mk 0 0 0 0, Seat.mk 0 3 0 0, Seat.mk 0 9 0 0] 1 0 [2] [Pole.mk 0 0 3, Pole.mk 9 0 1]) r3 h4)) rfl ⟨(.agg' ⟨(.all rfl (List.length_map _).symm), .v, .v, (.all rfl (List.length_map _).symm), (.all rfl (List.length_map _).symm), trivial⟩), trivial⟩ rfl rfl rfl) ?_
  refine RunT.ot0 (x := .lst (List.map eI r3)) rfl rfl rfl rfl (.assignX rfl) ?_
  refine RunT.nil ?_
  refine T.seq ?_
  refine T.sub (sub_pick [1, 2, 3] [0, 8, 16, 24] (st' := ⟨[(1, .ptr 24 0), (2, .lst (List.map eB r1)), (3, .lst (List.map eI r3))], [(0, some (.arr false 4 (List.map eSeat [Seat.mk 0 0 0 0, Seat.mk 0 3 0 0, Seat.mk 0 9 0 0]))), (8, some (.arr false 1 (List.map eI [2]))), (16, some (.arr false 3 (List.map ePole [Pole.mk 0 0 3, Pole.mk 9 0 1]))), (24, some (.box [.own 0 0 (([Seat.mk 0 0 0 0, Seat.mk 0 3 0 0, Seat.mk 0 9 0 0]).length), .v (.int .i64 1), .v (.int .i64 0), .own 8 0 (([2]).length), .own 16 0 (([Pole.mk 0 0 3, Pole.mk 9 0 1]).length)]))], 40, []⟩) rfl rfl rfl rfl rfl) ?_
  refine T.region ?_
  refine RunT.ot0 (x := .agg [.own 0 0 (([Seat.mk 0 0 0 0, Seat.mk 0 3 0 0, Seat.mk 0 9 0 0]).length), .v (.int .i64 1), .v (.int .i64 0), .own 8 0 (([2]).length), .own 16 0 (([Pole.mk 0 0 3, Pole.mk 9 0 1]).length)]) rfl rfl rfl rfl (.loadP ty26 rfl rfl rfl) ?_
  obtain ⟨r5, h6, H⟩ := bs H
  refine RunT.ot0 (x := .lst (List.map eI r5)) rfl rfl rfl rfl (.callp (PC.frozen (kill_By_pc false k (Venue.mk [Seat.mk 0 0 0 0, Seat.mk 0 3 0 0, Seat.mk 0 9 0 0] 1 0 [2] [Pole.mk 0 0 3, Pole.mk 9 0 1]) 2 r5 h6)) rfl ⟨(.agg' ⟨(.all rfl (List.length_map _).symm), .v, .v, (.all rfl (List.length_map _).symm), (.all rfl (List.length_map _).symm), trivial⟩), (.one .v), trivial⟩ rfl rfl rfl) ?_
  refine RunT.ot0 (x := .lst (List.map eI r5)) rfl rfl rfl rfl (.assignX rfl) ?_
  refine RunT.nil ?_
  refine T.seq ?_
  refine T.region ?_
  refine RunT.ot0 (x := .lst (List.map eB r1)) rfl rfl rfl rfl (.moveX rfl) ?_
  refine RunT.ot0 (x := .v (.int .i64 (r1.length : Int))) rfl rfl rfl rfl (.lenLm Try.underlying43 rfl rfl) ?_
  refine RunT.ot0 (x := .v (.bool (decide ((r1.length : Int) = 3)))) rfl rfl rfl rfl (.bin rfl rfl (fun w => b_eql w) rfl) ?_
  refine RunT.ot0 (x := .v (.bool (decide ((r1.length : Int) = 3)))) rfl rfl rfl rfl (.moveX rfl) ?_
  refine RunT.cases (t := 23) (c := decide ((r1.length : Int) = 3)) rfl (fun g7 => ?_) (fun g7 => ?_)
  · replace H := ct H g7
    refine RunT.gt0 (x := .lst (List.map eB r1)) rfl rfl rfl (bo g7) rfl rfl (.moveX rfl) ?_
    obtain ⟨y8, h9, H⟩ := bs H
    refine RunT.gt0 (x := .rptr [.v (.bool y8)]) rfl rfl rfl (bo g7) rfl rfl (.idxLX h9 enc_B sl43 rfl rfl rfl) ?_
    refine RunT.gt0 (x := .v (.bool y8)) rfl rfl rfl (bo g7) rfl rfl (.loadR ty4 rfl rfl) ?_
    refine RunT.gt0 (x := .v (.bool (!y8))) rfl rfl rfl (bo g7) rfl rfl (.un rfl (fun w => u_not w) rfl) ?_
    refine RunT.ot0 (x := .v (.bool (!y8))) rfl rfl rfl rfl (.pickT (bo g7) rfl) ?_
    refine RunT.ot0 (x := .v (.bool (!y8))) rfl rfl rfl rfl (.moveX rfl) ?_
    refine RunT.cases (t := 29) (c := !y8) rfl (fun g10 => ?_) (fun g10 => ?_)
    · replace H := ct H g10
      refine RunT.gt0 (x := .lst (List.map eB r1)) rfl rfl rfl (bo g10) rfl rfl (.moveX rfl) ?_
      obtain ⟨y11, h12, H⟩ := bs H
      refine RunT.gt0 (x := .rptr [.v (.bool y11)]) rfl rfl rfl (bo g10) rfl rfl (.idxLX h12 enc_B sl43 rfl rfl rfl) ?_
      refine RunT.gt0 (x := .v (.bool y11)) rfl rfl rfl (bo g10) rfl rfl (.loadR ty4 rfl rfl) ?_
      refine RunT.ot0 (x := .v (.bool y11)) rfl rfl rfl rfl (.pickT (bo g10) rfl) ?_
      refine RunT.ot0 (x := .v (.bool y11)) rfl rfl rfl rfl (.moveX rfl) ?_
      refine RunT.cases (t := 34) (c := y11) rfl (fun g13 => ?_) (fun g13 => ?_)
      · replace H := ct H g13
        refine RunT.gt0 (x := .lst (List.map eB r1)) rfl rfl rfl (bo g13) rfl rfl (.moveX rfl) ?_
        obtain ⟨y14, h15, H⟩ := bs H
        refine RunT.gt0 (x := .rptr [.v (.bool y14)]) rfl rfl rfl (bo g13) rfl rfl (.idxLX h15 enc_B sl43 rfl rfl rfl) ?_
        refine RunT.gt0 (x := .v (.bool y14)) rfl rfl rfl (bo g13) rfl rfl (.loadR ty4 rfl rfl) ?_
        refine RunT.gt0 (x := .v (.bool (!y14))) rfl rfl rfl (bo g13) rfl rfl (.un rfl (fun w => u_not w) rfl) ?_
        refine RunT.ot0 (x := .v (.bool (!y14))) rfl rfl rfl rfl (.pickT (bo g13) rfl) ?_
        refine RunT.ot0 (x := .v (.bool (!y14))) rfl rfl rfl rfl (.moveX rfl) ?_
        refine RunT.cases (t := 40) (c := !y14) rfl (fun g16 => ?_) (fun g16 => ?_)
        · replace H := ct H g16
          refine RunT.gt0 (x := .lst (List.map eI r3)) rfl rfl rfl (bo g16) rfl rfl (.moveX rfl) ?_
          refine RunT.gt0 (x := .v (.int .i64 (r3.length : Int))) rfl rfl rfl (bo g16) rfl rfl (.lenLm Try.underlying23 rfl rfl) ?_
          refine RunT.gt0 (x := .v (.bool (decide ((r3.length : Int) = 2)))) rfl rfl rfl (bo g16) rfl rfl (.bin rfl rfl (fun w => b_eql w) rfl) ?_
          refine RunT.ot0 (x := .v (.bool (decide ((r3.length : Int) = 2)))) rfl rfl rfl rfl (.pickT (bo g16) rfl) ?_
          refine RunT.ot0 (x := .v (.bool (decide ((r3.length : Int) = 2)))) rfl rfl rfl rfl (.moveX rfl) ?_
          refine RunT.cases (t := 45) (c := decide ((r3.length : Int) = 2)) rfl (fun g17 => ?_) (fun g17 => ?_)
          · replace H := ct H g17
            refine RunT.gt0 (x := .lst (List.map eI r3)) rfl rfl rfl (bo g17) rfl rfl (.moveX rfl) ?_
            obtain ⟨y18, h19, H⟩ := bs H
            refine RunT.gt0 (x := .rptr [.v (.int .i64 y18)]) rfl rfl rfl (bo g17) rfl rfl (.idxLX h19 enc_I sl23 rfl rfl rfl) ?_
            refine RunT.gt0 (x := .v (.int .i64 y18)) rfl rfl rfl (bo g17) rfl rfl (.loadR ty3 rfl rfl) ?_
            refine RunT.gt0 (x := .v (.bool (decide (y18 = 2)))) rfl rfl rfl (bo g17) rfl rfl (.bin rfl rfl (fun w => b_eql w) rfl) ?_
            refine RunT.ot0 (x := .v (.bool (decide (y18 = 2)))) rfl rfl rfl rfl (.pickT (bo g17) rfl) ?_
            refine RunT.ot0 (x := .v (.bool (decide (y18 = 2)))) rfl rfl rfl rfl (.moveX rfl) ?_
            refine RunT.cases (t := 51) (c := decide (y18 = 2)) rfl (fun g20 => ?_) (fun g20 => ?_)
            · replace H := ct H g20
              refine RunT.gt0 (x := .lst (List.map eI r5)) rfl rfl rfl (bo g20) rfl rfl (.moveX rfl) ?_
              refine RunT.gt0 (x := .v (.int .i64 (r5.length : Int))) rfl rfl rfl (bo g20) rfl rfl (.lenLm Try.underlying23 rfl rfl) ?_
              refine RunT.gt0 (x := .v (.bool (decide ((r5.length : Int) = 2)))) rfl rfl rfl (bo g20) rfl rfl (.bin rfl rfl (fun w => b_eql w) rfl) ?_
              refine RunT.ot0 (x := .v (.bool (decide ((r5.length : Int) = 2)))) rfl rfl rfl rfl (.pickT (bo g20) rfl) ?_
              refine RunT.ot0 (x := .v (.bool (decide ((r5.length : Int) = 2)))) rfl rfl rfl rfl (.moveX rfl) ?_
              refine RunT.cases (t := 56) (c := decide ((r5.length : Int) = 2)) rfl (fun g21 => ?_) (fun g21 => ?_)
              · replace H := ct H g21
                refine RunT.gt0 (x := .lst (List.map eI r5)) rfl rfl rfl (bo g21) rfl rfl (.moveX rfl) ?_
                obtain ⟨y22, h23, H⟩ := bs H
                refine RunT.gt0 (x := .rptr [.v (.int .i64 y22)]) rfl rfl rfl (bo g21) rfl rfl (.idxLX h23 enc_I sl23 rfl rfl rfl) ?_
                refine RunT.gt0 (x := .v (.int .i64 y22)) rfl rfl rfl (bo g21) rfl rfl (.loadR ty3 rfl rfl) ?_
                refine RunT.gt0 (x := .v (.bool (decide (y22 = (-1))))) rfl rfl rfl (bo g21) rfl rfl (.bin rfl rfl (fun w => b_eql w) rfl) ?_
                refine RunT.ot0 (x := .v (.bool (decide (y22 = (-1))))) rfl rfl rfl rfl (.pickT (bo g21) rfl) ?_
                refine RunT.ot0 (x := .v (.bool (decide (y22 = (-1))))) rfl rfl rfl rfl (.moveX rfl) ?_
                refine RunT.cases (t := 62) (c := decide (y22 = (-1))) rfl (fun g24 => ?_) (fun g24 => ?_)
                · replace H := ct H g24
                  refine RunT.gt0 (x := .lst (List.map eI r5)) rfl rfl rfl (bo g24) rfl rfl (.moveX rfl) ?_
                  obtain ⟨y25, h26, H⟩ := bs H
                  refine RunT.gt0 (x := .rptr [.v (.int .i64 y25)]) rfl rfl rfl (bo g24) rfl rfl (.idxLX h26 enc_I sl23 rfl rfl rfl) ?_
                  refine RunT.gt0 (x := .v (.int .i64 y25)) rfl rfl rfl (bo g24) rfl rfl (.loadR ty3 rfl rfl) ?_
                  refine RunT.gt0 (x := .v (.bool (decide (y25 = 1)))) rfl rfl rfl (bo g24) rfl rfl (.bin rfl rfl (fun w => b_eql w) rfl) ?_
                  refine RunT.ot0 (x := .v (.bool (decide (y25 = 1)))) rfl rfl rfl rfl (.pickT (bo g24) rfl) ?_
                  refine RunT.ot0 (x := .v (.bool (decide (y25 = 1)))) rfl rfl rfl rfl (.moveX rfl) ?_
                  refine RunT.cases (t := 68) (c := decide (y25 = 1)) rfl (fun g27 => ?_) (fun g27 => ?_)
                  · replace H := ct H g27
                    refine RunT.gt0 (x := .agg [.own 0 0 (([Seat.mk 0 0 0 0, Seat.mk 0 3 0 0, Seat.mk 0 9 0 0]).length), .v (.int .i64 1), .v (.int .i64 0), .own 8 0 (([2]).length), .own 16 0 (([Pole.mk 0 0 3, Pole.mk 9 0 1]).length)]) rfl rfl rfl (bo g27) rfl rfl (.loadP ty26 rfl rfl rfl) ?_
                    obtain ⟨r28, h29, H⟩ := bs H
                    refine RunT.gt0 (x := .lst (List.map eI r28)) rfl rfl rfl (bo g27) rfl rfl (.callp (PC.frozen (kill_By_pc false k (Venue.mk [Seat.mk 0 0 0 0, Seat.mk 0 3 0 0, Seat.mk 0 9 0 0] 1 0 [2] [Pole.mk 0 0 3, Pole.mk 9 0 1]) 3 r28 h29)) rfl ⟨(.agg' ⟨(.all rfl (List.length_map _).symm), .v, .v, (.all rfl (List.length_map _).symm), (.all rfl (List.length_map _).symm), trivial⟩), (.one .v), trivial⟩ rfl rfl rfl) ?_
                    refine RunT.gt0 (x := .v (.int .i64 (r28.length : Int))) rfl rfl rfl (bo g27) rfl rfl (.lenLm Try.underlying23 rfl rfl) ?_
                    refine RunT.gt0 (x := .v (.bool (decide ((r28.length : Int) = 0)))) rfl rfl rfl (bo g27) rfl rfl (.bin rfl rfl (fun w => b_eql w) rfl) ?_
                    refine RunT.ot0 (x := .v (.bool (decide ((r28.length : Int) = 0)))) rfl rfl rfl rfl (.pickT (bo g27) rfl) ?_
                    refine RunT.ot0 (x := .v (.bool (decide ((r28.length : Int) = 0)))) rfl rfl rfl rfl (.moveX rfl) ?_
                    refine RunT.cases (t := 74) (c := decide ((r28.length : Int) = 0)) rfl (fun g30 => ?_) (fun g30 => ?_)
                    · replace H := ct H g30
                      refine RunT.gt0 (x := .agg [.v (.slice none 0 0), .v (.int .i64 0), .v (.int .i64 0), .v (.slice none 0 0), .v (.slice none 0 0)]) rfl rfl rfl (bo g30) rfl rfl (.bu bu26 rfl) ?_
                      obtain ⟨r31, h32, H⟩ := bs H
                      refine RunT.gt0 (x := .lst (List.map eB r31)) rfl rfl rfl (bo g30) rfl rfl (.callp (PC.frozen (kill_Usable_pc false k (Venue.mk [] 0 0 [] []) r31 h32)) rfl ⟨(.agg' ⟨.nil, .v, .v, .nil, .nil, trivial⟩), trivial⟩ rfl rfl rfl) ?_
                      refine RunT.gt0 (x := .v (.int .i64 (r31.length : Int))) rfl rfl rfl (bo g30) rfl rfl (.lenLm Try.underlying43 rfl rfl) ?_
                      refine RunT.gt0 (x := .v (.bool (decide ((r31.length : Int) = 0)))) rfl rfl rfl (bo g30) rfl rfl (.bin rfl rfl (fun w => b_eql w) rfl) ?_
                      refine RunT.ot0 (x := .v (.bool (decide ((r31.length : Int) = 0)))) rfl rfl rfl rfl (.pickT (bo g30) rfl) ?_
                      refine RunT.ot0 (x := .v (.bool (decide ((r31.length : Int) = 0)))) rfl rfl rfl rfl (.assignX rfl) ?_
                      refine RunT.nil ?_
                      obtain rfl := si H
                      refine T.sub (sub_to (st' := ⟨[(0, .v (.bool (decide ((r31.length : Int) = 0))))], [], 8, []⟩) [] (by decide) rfl rfl (⟨⟨_, rfl, .one .v⟩, trivial⟩) (trivial)) ?_
                      refine T.ret ?_
                      exact RetOk.same [.v (.bool (decide ((r31.length : Int) = 0)))] ⟨rfl, trivial⟩ rfl rfl rfl
                    · replace H := cf H g30
                      refine RunT.xn rfl rfl rfl (bo g30) rfl rfl ?_
                      refine RunT.xn rfl rfl rfl (bo g30) rfl rfl ?_
                      refine RunT.xn rfl rfl rfl (bo g30) rfl rfl ?_
                      refine RunT.xn rfl rfl rfl (bo g30) rfl rfl ?_
                      refine RunT.ot0 (x := .v (.bool false)) rfl rfl rfl rfl (.pickF (bo g30) rfl) ?_
                      refine RunT.ot0 (x := .v (.bool false)) rfl rfl rfl rfl (.assignX rfl) ?_
                      refine RunT.nil ?_
                      obtain rfl := si H
                      refine T.sub (sub_to (st' := ⟨[(0, .v (.bool false))], [], 8, []⟩) [] (by decide) rfl rfl (⟨⟨_, rfl, .one .v⟩, trivial⟩) (trivial)) ?_
                      refine T.ret ?_
                      exact RetOk.same [.v (.bool false)] ⟨rfl, trivial⟩ rfl rfl rfl
                  · replace H := cf H g27
                    refine RunT.xn rfl rfl rfl (bo g27) rfl rfl ?_
                    refine RunT.xn rfl rfl rfl (bo g27) rfl rfl ?_
                    refine RunT.xn rfl rfl rfl (bo g27) rfl rfl ?_
                    refine RunT.xn rfl rfl rfl (bo g27) rfl rfl ?_
                    refine RunT.ot0 (x := .v (.bool false)) rfl rfl rfl rfl (.pickF (bo g27) rfl) ?_
                    refine RunT.ot0 (x := .v (.bool false)) rfl rfl rfl rfl (.moveX rfl) ?_
                    refine RunT.xn rfl rfl rfl rfl rfl rfl ?_
                    refine RunT.xn rfl rfl rfl rfl rfl rfl ?_
                    refine RunT.xn rfl rfl rfl rfl rfl rfl ?_
                    refine RunT.xn rfl rfl rfl rfl rfl rfl ?_
                    refine RunT.ot0 (x := .v (.bool false)) rfl rfl rfl rfl (.pickF rfl rfl) ?_
                    refine RunT.ot0 (x := .v (.bool false)) rfl rfl rfl rfl (.assignX rfl) ?_
                    refine RunT.nil ?_
                    obtain rfl := si H
                    refine T.sub (sub_to (st' := ⟨[(0, .v (.bool false))], [], 8, []⟩) [] (by decide) rfl rfl (⟨⟨_, rfl, .one .v⟩, trivial⟩) (trivial)) ?_
                    refine T.ret ?_
                    exact RetOk.same [.v (.bool false)] ⟨rfl, trivial⟩ rfl rfl rfl
                · replace H := cf H g24
                  refine RunT.xn rfl rfl rfl (bo g24) rfl rfl ?_
                  refine RunT.xn rfl rfl rfl (bo g24) rfl rfl ?_
                  refine RunT.xn rfl rfl rfl (bo g24) rfl rfl ?_
                  refine RunT.xn rfl rfl rfl (bo g24) rfl rfl ?_
                  refine RunT.ot0 (x := .v (.bool false)) rfl rfl rfl rfl (.pickF (bo g24) rfl) ?_
                  refine RunT.ot0 (x := .v (.bool false)) rfl rfl rfl rfl (.moveX rfl) ?_
                  refine RunT.xn rfl rfl rfl rfl rfl rfl ?_
                  refine RunT.xn rfl rfl rfl rfl rfl rfl ?_
                  refine RunT.xn rfl rfl rfl rfl rfl rfl ?_
                  refine RunT.xn rfl rfl rfl rfl rfl rfl ?_
                  refine RunT.ot0 (x := .v (.bool false)) rfl rfl rfl rfl (.pickF rfl rfl) ?_
                  refine RunT.ot0 (x := .v (.bool false)) rfl rfl rfl rfl (.moveX rfl) ?_
                  refine RunT.xn rfl rfl rfl rfl rfl rfl ?_
                  refine RunT.xn rfl rfl rfl rfl rfl rfl ?_
                  refine RunT.xn rfl rfl rfl rfl rfl rfl ?_
                  refine RunT.xn rfl rfl rfl rfl rfl rfl ?_
                  refine RunT.ot0 (x := .v (.bool false)) rfl rfl rfl rfl (.pickF rfl rfl) ?_
                  refine RunT.ot0 (x := .v (.bool false)) rfl rfl rfl rfl (.assignX rfl) ?_
                  refine RunT.nil ?_
                  obtain rfl := si H
                  refine T.sub (sub_to (st' := ⟨[(0, .v (.bool false))], [], 8, []⟩) [] (by decide) rfl rfl (⟨⟨_, rfl, .one .v⟩, trivial⟩) (trivial)) ?_
                  refine T.ret ?_
                  exact RetOk.same [.v (.bool false)] ⟨rfl, trivial⟩ rfl rfl rfl
              · replace H := cf H g21
                refine RunT.xn rfl rfl rfl (bo g21) rfl rfl ?_
                refine RunT.xn rfl rfl rfl (bo g21) rfl rfl ?_
                refine RunT.xn rfl rfl rfl (bo g21) rfl rfl ?_
                refine RunT.xn rfl rfl rfl (bo g21) rfl rfl ?_
                refine RunT.ot0 (x := .v (.bool false)) rfl rfl rfl rfl (.pickF (bo g21) rfl) ?_
                refine RunT.ot0 (x := .v (.bool false)) rfl rfl rfl rfl (.moveX rfl) ?_
                refine RunT.xn rfl rfl rfl rfl rfl rfl ?_
                refine RunT.xn rfl rfl rfl rfl rfl rfl ?_
                refine RunT.xn rfl rfl rfl rfl rfl rfl ?_
                refine RunT.xn rfl rfl rfl rfl rfl rfl ?_
                refine RunT.ot0 (x := .v (.bool false)) rfl rfl rfl rfl (.pickF rfl rfl) ?_
                refine RunT.ot0 (x := .v (.bool false)) rfl rfl rfl rfl (.moveX rfl) ?_
                refine RunT.xn rfl rfl rfl rfl rfl rfl ?_
                refine RunT.xn rfl rfl rfl rfl rfl rfl ?_
                refine RunT.xn rfl rfl rfl rfl rfl rfl ?_
                refine RunT.xn rfl rfl rfl rfl rfl rfl ?_
                refine RunT.ot0 (x := .v (.bool false)) rfl rfl rfl rfl (.pickF rfl rfl) ?_
                refine RunT.ot0 (x := .v (.bool false)) rfl rfl rfl rfl (.moveX rfl) ?_
                refine RunT.xn rfl rfl rfl rfl rfl rfl ?_
                refine RunT.xn rfl rfl rfl rfl rfl rfl ?_
                refine RunT.xn rfl rfl rfl rfl rfl rfl ?_
                refine RunT.xn rfl rfl rfl rfl rfl rfl ?_
                refine RunT.ot0 (x := .v (.bool false)) rfl rfl rfl rfl (.pickF rfl rfl) ?_
                refine RunT.ot0 (x := .v (.bool false)) rfl rfl rfl rfl (.assignX rfl) ?_
                refine RunT.nil ?_
                obtain rfl := si H
                refine T.sub (sub_to (st' := ⟨[(0, .v (.bool false))], [], 8, []⟩) [] (by decide) rfl rfl (⟨⟨_, rfl, .one .v⟩, trivial⟩) (trivial)) ?_
                refine T.ret ?_
                exact RetOk.same [.v (.bool false)] ⟨rfl, trivial⟩ rfl rfl rfl
            · replace H := cf H g20
              refine RunT.xn rfl rfl rfl (bo g20) rfl rfl ?_
              refine RunT.xn rfl rfl rfl (bo g20) rfl rfl ?_
              refine RunT.xn rfl rfl rfl (bo g20) rfl rfl ?_
              refine RunT.ot0 (x := .v (.bool false)) rfl rfl rfl rfl (.pickF (bo g20) rfl) ?_
              refine RunT.ot0 (x := .v (.bool false)) rfl rfl rfl rfl (.moveX rfl) ?_
              refine RunT.xn rfl rfl rfl rfl rfl rfl ?_
              refine RunT.xn rfl rfl rfl rfl rfl rfl ?_
              refine RunT.xn rfl rfl rfl rfl rfl rfl ?_
              refine RunT.xn rfl rfl rfl rfl rfl rfl ?_
              refine RunT.ot0 (x := .v (.bool false)) rfl rfl rfl rfl (.pickF rfl rfl) ?_
              refine RunT.ot0 (x := .v (.bool false)) rfl rfl rfl rfl (.moveX rfl) ?_
              refine RunT.xn rfl rfl rfl rfl rfl rfl ?_
              refine RunT.xn rfl rfl rfl rfl rfl rfl ?_
              refine RunT.xn rfl rfl rfl rfl rfl rfl ?_
              refine RunT.xn rfl rfl rfl rfl rfl rfl ?_
              refine RunT.ot0 (x := .v (.bool false)) rfl rfl rfl rfl (.pickF rfl rfl) ?_
              refine RunT.ot0 (x := .v (.bool false)) rfl rfl rfl rfl (.moveX rfl) ?_
              refine RunT.xn rfl rfl rfl rfl rfl rfl ?_
              refine RunT.xn rfl rfl rfl rfl rfl rfl ?_
              refine RunT.xn rfl rfl rfl rfl rfl rfl ?_
              refine RunT.xn rfl rfl rfl rfl rfl rfl ?_
              refine RunT.ot0 (x := .v (.bool false)) rfl rfl rfl rfl (.pickF rfl rfl) ?_
              refine RunT.ot0 (x := .v (.bool false)) rfl rfl rfl rfl (.moveX rfl) ?_
              refine RunT.xn rfl rfl rfl rfl rfl rfl ?_
              refine RunT.xn rfl rfl rfl rfl rfl rfl ?_
              refine RunT.xn rfl rfl rfl rfl rfl rfl ?_
              refine RunT.xn rfl rfl rfl rfl rfl rfl ?_
              refine RunT.ot0 (x := .v (.bool false)) rfl rfl rfl rfl (.pickF rfl rfl) ?_
              refine RunT.ot0 (x := .v (.bool false)) rfl rfl rfl rfl (.assignX rfl) ?_
              refine RunT.nil ?_
              obtain rfl := si H
              refine T.sub (sub_to (st' := ⟨[(0, .v (.bool false))], [], 8, []⟩) [] (by decide) rfl rfl (⟨⟨_, rfl, .one .v⟩, trivial⟩) (trivial)) ?_
              refine T.ret ?_
              exact RetOk.same [.v (.bool false)] ⟨rfl, trivial⟩ rfl rfl rfl
          · replace H := cf H g17
            refine RunT.xn rfl rfl rfl (bo g17) rfl rfl ?_
            refine RunT.xn rfl rfl rfl (bo g17) rfl rfl ?_
            refine RunT.xn rfl rfl rfl (bo g17) rfl rfl ?_
            refine RunT.xn rfl rfl rfl (bo g17) rfl rfl ?_
            refine RunT.ot0 (x := .v (.bool false)) rfl rfl rfl rfl (.pickF (bo g17) rfl) ?_
            refine RunT.ot0 (x := .v (.bool false)) rfl rfl rfl rfl (.moveX rfl) ?_
            refine RunT.xn rfl rfl rfl rfl rfl rfl ?_
            refine RunT.xn rfl rfl rfl rfl rfl rfl ?_
            refine RunT.xn rfl rfl rfl rfl rfl rfl ?_
            refine RunT.ot0 (x := .v (.bool false)) rfl rfl rfl rfl (.pickF rfl rfl) ?_
            refine RunT.ot0 (x := .v (.bool false)) rfl rfl rfl rfl (.moveX rfl) ?_
            refine RunT.xn rfl rfl rfl rfl rfl rfl ?_
            refine RunT.xn rfl rfl rfl rfl rfl rfl ?_
            refine RunT.xn rfl rfl rfl rfl rfl rfl ?_
            refine RunT.xn rfl rfl rfl rfl rfl rfl ?_
            refine RunT.ot0 (x := .v (.bool false)) rfl rfl rfl rfl (.pickF rfl rfl) ?_
            refine RunT.ot0 (x := .v (.bool false)) rfl rfl rfl rfl (.moveX rfl) ?_
            refine RunT.xn rfl rfl rfl rfl rfl rfl ?_
            refine RunT.xn rfl rfl rfl rfl rfl rfl ?_
            refine RunT.xn rfl rfl rfl rfl rfl rfl ?_
            refine RunT.xn rfl rfl rfl rfl rfl rfl ?_
            refine RunT.ot0 (x := .v (.bool false)) rfl rfl rfl rfl (.pickF rfl rfl) ?_
            refine RunT.ot0 (x := .v (.bool false)) rfl rfl rfl rfl (.moveX rfl) ?_
            refine RunT.xn rfl rfl rfl rfl rfl rfl ?_
            refine RunT.xn rfl rfl rfl rfl rfl rfl ?_
            refine RunT.xn rfl rfl rfl rfl rfl rfl ?_
            refine RunT.xn rfl rfl rfl rfl rfl rfl ?_
            refine RunT.ot0 (x := .v (.bool false)) rfl rfl rfl rfl (.pickF rfl rfl) ?_
            refine RunT.ot0 (x := .v (.bool false)) rfl rfl rfl rfl (.moveX rfl) ?_
            refine RunT.xn rfl rfl rfl rfl rfl rfl ?_
            refine RunT.xn rfl rfl rfl rfl rfl rfl ?_
            refine RunT.xn rfl rfl rfl rfl rfl rfl ?_
            refine RunT.xn rfl rfl rfl rfl rfl rfl ?_
            refine RunT.ot0 (x := .v (.bool false)) rfl rfl rfl rfl (.pickF rfl rfl) ?_
            refine RunT.ot0 (x := .v (.bool false)) rfl rfl rfl rfl (.assignX rfl) ?_
            refine RunT.nil ?_
            obtain rfl := si H
            refine T.sub (sub_to (st' := ⟨[(0, .v (.bool false))], [], 8, []⟩) [] (by decide) rfl rfl (⟨⟨_, rfl, .one .v⟩, trivial⟩) (trivial)) ?_
            refine T.ret ?_
            exact RetOk.same [.v (.bool false)] ⟨rfl, trivial⟩ rfl rfl rfl
        · replace H := cf H g16
          refine RunT.xn rfl rfl rfl (bo g16) rfl rfl ?_
          refine RunT.xn rfl rfl rfl (bo g16) rfl rfl ?_
          refine RunT.xn rfl rfl rfl (bo g16) rfl rfl ?_
          refine RunT.ot0 (x := .v (.bool false)) rfl rfl rfl rfl (.pickF (bo g16) rfl) ?_
          refine RunT.ot0 (x := .v (.bool false)) rfl rfl rfl rfl (.moveX rfl) ?_
          refine RunT.xn rfl rfl rfl rfl rfl rfl ?_
          refine RunT.xn rfl rfl rfl rfl rfl rfl ?_
          refine RunT.xn rfl rfl rfl rfl rfl rfl ?_
          refine RunT.xn rfl rfl rfl rfl rfl rfl ?_
          refine RunT.ot0 (x := .v (.bool false)) rfl rfl rfl rfl (.pickF rfl rfl) ?_
          refine RunT.ot0 (x := .v (.bool false)) rfl rfl rfl rfl (.moveX rfl) ?_
          refine RunT.xn rfl rfl rfl rfl rfl rfl ?_
          refine RunT.xn rfl rfl rfl rfl rfl rfl ?_
          refine RunT.xn rfl rfl rfl rfl rfl rfl ?_
          refine RunT.ot0 (x := .v (.bool false)) rfl rfl rfl rfl (.pickF rfl rfl) ?_
          refine RunT.ot0 (x := .v (.bool false)) rfl rfl rfl rfl (.moveX rfl) ?_
          refine RunT.xn rfl rfl rfl rfl rfl rfl ?_
          refine RunT.xn rfl rfl rfl rfl rfl rfl ?_
          refine RunT.xn rfl rfl rfl rfl rfl rfl ?_
          refine RunT.xn rfl rfl rfl rfl rfl rfl ?_
          refine RunT.ot0 (x := .v (.bool false)) rfl rfl rfl rfl (.pickF rfl rfl) ?_
          refine RunT.ot0 (x := .v (.bool false)) rfl rfl rfl rfl (.moveX rfl) ?_
          refine RunT.xn rfl rfl rfl rfl rfl rfl ?_
          refine RunT.xn rfl rfl rfl rfl rfl rfl ?_
          refine RunT.xn rfl rfl rfl rfl rfl rfl ?_
          refine RunT.xn rfl rfl rfl rfl rfl rfl ?_
          refine RunT.ot0 (x := .v (.bool false)) rfl rfl rfl rfl (.pickF rfl rfl) ?_
          refine RunT.ot0 (x := .v (.bool false)) rfl rfl rfl rfl (.moveX rfl) ?_
          refine RunT.xn rfl rfl rfl rfl rfl rfl ?_
          refine RunT.xn rfl rfl rfl rfl rfl rfl ?_
          refine RunT.xn rfl rfl rfl rfl rfl rfl ?_
          refine RunT.xn rfl rfl rfl rfl rfl rfl ?_
          refine RunT.ot0 (x := .v (.bool false)) rfl rfl rfl rfl (.pickF rfl rfl) ?_
          refine RunT.ot0 (x := .v (.bool false)) rfl rfl rfl rfl (.moveX rfl) ?_
          refine RunT.xn rfl rfl rfl rfl rfl rfl ?_
          refine RunT.xn rfl rfl rfl rfl rfl rfl ?_
          refine RunT.xn rfl rfl rfl rfl rfl rfl ?_
          refine RunT.xn rfl rfl rfl rfl rfl rfl ?_
          refine RunT.ot0 (x := .v (.bool false)) rfl rfl rfl rfl (.pickF rfl rfl) ?_
          refine RunT.ot0 (x := .v (.bool false)) rfl rfl rfl rfl (.assignX rfl) ?_
          refine RunT.nil ?_
          obtain rfl := si H
          refine T.sub (sub_to (st' := ⟨[(0, .v (.bool false))], [], 8, []⟩) [] (by decide) rfl rfl (⟨⟨_, rfl, .one .v⟩, trivial⟩) (trivial)) ?_
          refine T.ret ?_
          exact RetOk.same [.v (.bool false)] ⟨rfl, trivial⟩ rfl rfl rfl
      · replace H := cf H g13
        refine RunT.xn rfl rfl rfl (bo g13) rfl rfl ?_
        refine RunT.xn rfl rfl rfl (bo g13) rfl rfl ?_
        refine RunT.xn rfl rfl rfl (bo g13) rfl rfl ?_
        refine RunT.xn rfl rfl rfl (bo g13) rfl rfl ?_
        refine RunT.ot0 (x := .v (.bool false)) rfl rfl rfl rfl (.pickF (bo g13) rfl) ?_
        refine RunT.ot0 (x := .v (.bool false)) rfl rfl rfl rfl (.moveX rfl) ?_
        refine RunT.xn rfl rfl rfl rfl rfl rfl ?_
        refine RunT.xn rfl rfl rfl rfl rfl rfl ?_
        refine RunT.xn rfl rfl rfl rfl rfl rfl ?_
        refine RunT.ot0 (x := .v (.bool false)) rfl rfl rfl rfl (.pickF rfl rfl) ?_
        refine RunT.ot0 (x := .v (.bool false)) rfl rfl rfl rfl (.moveX rfl) ?_
        refine RunT.xn rfl rfl rfl rfl rfl rfl ?_
        refine RunT.xn rfl rfl rfl rfl rfl rfl ?_
        refine RunT.xn rfl rfl rfl rfl rfl rfl ?_
        refine RunT.xn rfl rfl rfl rfl rfl rfl ?_
        refine RunT.ot0 (x := .v (.bool false)) rfl rfl rfl rfl (.pickF rfl rfl) ?_
        refine RunT.ot0 (x := .v (.bool false)) rfl rfl rfl rfl (.moveX rfl) ?_
        refine RunT.xn rfl rfl rfl rfl rfl rfl ?_
        refine RunT.xn rfl rfl rfl rfl rfl rfl ?_
        refine RunT.xn rfl rfl rfl rfl rfl rfl ?_
        refine RunT.ot0 (x := .v (.bool false)) rfl rfl rfl rfl (.pickF rfl rfl) ?_
        refine RunT.ot0 (x := .v (.bool false)) rfl rfl rfl rfl (.moveX rfl) ?_
        refine RunT.xn rfl rfl rfl rfl rfl rfl ?_
        refine RunT.xn rfl rfl rfl rfl rfl rfl ?_
        refine RunT.xn rfl rfl rfl rfl rfl rfl ?_
        refine RunT.xn rfl rfl rfl rfl rfl rfl ?_
        refine RunT.ot0 (x := .v (.bool false)) rfl rfl rfl rfl (.pickF rfl rfl) ?_
        refine RunT.ot0 (x := .v (.bool false)) rfl rfl rfl rfl (.moveX rfl) ?_
        refine RunT.xn rfl rfl rfl rfl rfl rfl ?_
        refine RunT.xn rfl rfl rfl rfl rfl rfl ?_
        refine RunT.xn rfl rfl rfl rfl rfl rfl ?_
        refine RunT.xn rfl rfl rfl rfl rfl rfl ?_
        refine RunT.ot0 (x := .v (.bool false)) rfl rfl rfl rfl (.pickF rfl rfl) ?_
        refine RunT.ot0 (x := .v (.bool false)) rfl rfl rfl rfl (.moveX rfl) ?_
        refine RunT.xn rfl rfl rfl rfl rfl rfl ?_
        refine RunT.xn rfl rfl rfl rfl rfl rfl ?_
        refine RunT.xn rfl rfl rfl rfl rfl rfl ?_
        refine RunT.xn rfl rfl rfl rfl rfl rfl ?_
        refine RunT.ot0 (x := .v (.bool false)) rfl rfl rfl rfl (.pickF rfl rfl) ?_
        refine RunT.ot0 (x := .v (.bool false)) rfl rfl rfl rfl (.moveX rfl) ?_
        refine RunT.xn rfl rfl rfl rfl rfl rfl ?_
        refine RunT.xn rfl rfl rfl rfl rfl rfl ?_
        refine RunT.xn rfl rfl rfl rfl rfl rfl ?_
        refine RunT.xn rfl rfl rfl rfl rfl rfl ?_
        refine RunT.ot0 (x := .v (.bool false)) rfl rfl rfl rfl (.pickF rfl rfl) ?_
        refine RunT.ot0 (x := .v (.bool false)) rfl rfl rfl rfl (.assignX rfl) ?_
        refine RunT.nil ?_
        obtain rfl := si H
        refine T.sub (sub_to (st' := ⟨[(0, .v (.bool false))], [], 8, []⟩) [] (by decide) rfl rfl (⟨⟨_, rfl, .one .v⟩, trivial⟩) (trivial)) ?_
        refine T.ret ?_
        exact RetOk.same [.v (.bool false)] ⟨rfl, trivial⟩ rfl rfl rfl
    · replace H := cf H g10
      refine RunT.xn rfl rfl rfl (bo g10) rfl rfl ?_
      refine RunT.xn rfl rfl rfl (bo g10) rfl rfl ?_
      refine RunT.xn rfl rfl rfl (bo g10) rfl rfl ?_
      refine RunT.ot0 (x := .v (.bool false)) rfl rfl rfl rfl (.pickF (bo g10) rfl) ?_
      refine RunT.ot0 (x := .v (.bool false)) rfl rfl rfl rfl (.moveX rfl) ?_
      refine RunT.xn rfl rfl rfl rfl rfl rfl ?_
      refine RunT.xn rfl rfl rfl rfl rfl rfl ?_
      refine RunT.xn rfl rfl rfl rfl rfl rfl ?_
      refine RunT.xn rfl rfl rfl rfl rfl rfl ?_
      refine RunT.ot0 (x := .v (.bool false)) rfl rfl rfl rfl (.pickF rfl rfl) ?_
      refine RunT.ot0 (x := .v (.bool false)) rfl rfl rfl rfl (.moveX rfl) ?_
      refine RunT.xn rfl rfl rfl rfl rfl rfl ?_
      refine RunT.xn rfl rfl rfl rfl rfl rfl ?_
      refine RunT.xn rfl rfl rfl rfl rfl rfl ?_
      refine RunT.ot0 (x := .v (.bool false)) rfl rfl rfl rfl (.pickF rfl rfl) ?_
      refine RunT.ot0 (x := .v (.bool false)) rfl rfl rfl rfl (.moveX rfl) ?_
      refine RunT.xn rfl rfl rfl rfl rfl rfl ?_
      refine RunT.xn rfl rfl rfl rfl rfl rfl ?_
      refine RunT.xn rfl rfl rfl rfl rfl rfl ?_
      refine RunT.xn rfl rfl rfl rfl rfl rfl ?_
      refine RunT.ot0 (x := .v (.bool false)) rfl rfl rfl rfl (.pickF rfl rfl) ?_
      refine RunT.ot0 (x := .v (.bool false)) rfl rfl rfl rfl (.moveX rfl) ?_
      refine RunT.xn rfl rfl rfl rfl rfl rfl ?_
      refine RunT.xn rfl rfl rfl rfl rfl rfl ?_
      refine RunT.xn rfl rfl rfl rfl rfl rfl ?_
      refine RunT.ot0 (x := .v (.bool false)) rfl rfl rfl rfl (.pickF rfl rfl) ?_
      refine RunT.ot0 (x := .v (.bool false)) rfl rfl rfl rfl (.moveX rfl) ?_
      refine RunT.xn rfl rfl rfl rfl rfl rfl ?_
      refine RunT.xn rfl rfl rfl rfl rfl rfl ?_
      refine RunT.xn rfl rfl rfl rfl rfl rfl ?_
      refine RunT.xn rfl rfl rfl rfl rfl rfl ?_
      refine RunT.ot0 (x := .v (.bool false)) rfl rfl rfl rfl (.pickF rfl rfl) ?_
      refine RunT.ot0 (x := .v (.bool false)) rfl rfl rfl rfl (.moveX rfl) ?_
      refine RunT.xn rfl rfl rfl rfl rfl rfl ?_
      refine RunT.xn rfl rfl rfl rfl rfl rfl ?_
      refine RunT.xn rfl rfl rfl rfl rfl rfl ?_
      refine RunT.xn rfl rfl rfl rfl rfl rfl ?_
      refine RunT.ot0 (x := .v (.bool false)) rfl rfl rfl rfl (.pickF rfl rfl) ?_
      refine RunT.ot0 (x := .v (.bool false)) rfl rfl rfl rfl (.moveX rfl) ?_
      refine RunT.xn rfl rfl rfl rfl rfl rfl ?_
      refine RunT.xn rfl rfl rfl rfl rfl rfl ?_
      refine RunT.xn rfl rfl rfl rfl rfl rfl ?_
      refine RunT.xn rfl rfl rfl rfl rfl rfl ?_
      refine RunT.ot0 (x := .v (.bool false)) rfl rfl rfl rfl (.pickF rfl rfl) ?_
      refine RunT.ot0 (x := .v (.bool false)) rfl rfl rfl rfl (.moveX rfl) ?_
      refine RunT.xn rfl rfl rfl rfl rfl rfl ?_
      refine RunT.xn rfl rfl rfl rfl rfl rfl ?_
      refine RunT.xn rfl rfl rfl rfl rfl rfl ?_
      refine RunT.xn rfl rfl rfl rfl rfl rfl ?_
      refine RunT.ot0 (x := .v (.bool false)) rfl rfl rfl rfl (.pickF rfl rfl) ?_
      refine RunT.ot0 (x := .v (.bool false)) rfl rfl rfl rfl (.assignX rfl) ?_
      refine RunT.nil ?_
      obtain rfl := si H
      refine T.sub (sub_to (st' := ⟨[(0, .v (.bool false))], [], 8, []⟩) [] (by decide) rfl rfl (⟨⟨_, rfl, .one .v⟩, trivial⟩) (trivial)) ?_
      refine T.ret ?_
      exact RetOk.same [.v (.bool false)] ⟨rfl, trivial⟩ rfl rfl rfl
  · replace H := cf H g7
    refine RunT.xn rfl rfl rfl (bo g7) rfl rfl ?_
    refine RunT.xn rfl rfl rfl (bo g7) rfl rfl ?_
    refine RunT.xn rfl rfl rfl (bo g7) rfl rfl ?_
    refine RunT.xn rfl rfl rfl (bo g7) rfl rfl ?_
    refine RunT.ot0 (x := .v (.bool false)) rfl rfl rfl rfl (.pickF (bo g7) rfl) ?_
    refine RunT.ot0 (x := .v (.bool false)) rfl rfl rfl rfl (.moveX rfl) ?_
    refine RunT.xn rfl rfl rfl rfl rfl rfl ?_
    refine RunT.xn rfl rfl rfl rfl rfl rfl ?_
    refine RunT.xn rfl rfl rfl rfl rfl rfl ?_
    refine RunT.ot0 (x := .v (.bool false)) rfl rfl rfl rfl (.pickF rfl rfl) ?_
    refine RunT.ot0 (x := .v (.bool false)) rfl rfl rfl rfl (.moveX rfl) ?_
    refine RunT.xn rfl rfl rfl rfl rfl rfl ?_
    refine RunT.xn rfl rfl rfl rfl rfl rfl ?_
    refine RunT.xn rfl rfl rfl rfl rfl rfl ?_
    refine RunT.xn rfl rfl rfl rfl rfl rfl ?_
    refine RunT.ot0 (x := .v (.bool false)) rfl rfl rfl rfl (.pickF rfl rfl) ?_
    refine RunT.ot0 (x := .v (.bool false)) rfl rfl rfl rfl (.moveX rfl) ?_
    refine RunT.xn rfl rfl rfl rfl rfl rfl ?_
    refine RunT.xn rfl rfl rfl rfl rfl rfl ?_
    refine RunT.xn rfl rfl rfl rfl rfl rfl ?_
    refine RunT.ot0 (x := .v (.bool false)) rfl rfl rfl rfl (.pickF rfl rfl) ?_
    refine RunT.ot0 (x := .v (.bool false)) rfl rfl rfl rfl (.moveX rfl) ?_
    refine RunT.xn rfl rfl rfl rfl rfl rfl ?_
    refine RunT.xn rfl rfl rfl rfl rfl rfl ?_
    refine RunT.xn rfl rfl rfl rfl rfl rfl ?_
    refine RunT.xn rfl rfl rfl rfl rfl rfl ?_
    refine RunT.ot0 (x := .v (.bool false)) rfl rfl rfl rfl (.pickF rfl rfl) ?_
    refine RunT.ot0 (x := .v (.bool false)) rfl rfl rfl rfl (.moveX rfl) ?_
    refine RunT.xn rfl rfl rfl rfl rfl rfl ?_
    refine RunT.xn rfl rfl rfl rfl rfl rfl ?_
    refine RunT.xn rfl rfl rfl rfl rfl rfl ?_
    refine RunT.ot0 (x := .v (.bool false)) rfl rfl rfl rfl (.pickF rfl rfl) ?_
    refine RunT.ot0 (x := .v (.bool false)) rfl rfl rfl rfl (.moveX rfl) ?_
    refine RunT.xn rfl rfl rfl rfl rfl rfl ?_
    refine RunT.xn rfl rfl rfl rfl rfl rfl ?_
    refine RunT.xn rfl rfl rfl rfl rfl rfl ?_
    refine RunT.xn rfl rfl rfl rfl rfl rfl ?_
    refine RunT.ot0 (x := .v (.bool false)) rfl rfl rfl rfl (.pickF rfl rfl) ?_
    refine RunT.ot0 (x := .v (.bool false)) rfl rfl rfl rfl (.moveX rfl) ?_
    refine RunT.xn rfl rfl rfl rfl rfl rfl ?_
    refine RunT.xn rfl rfl rfl rfl rfl rfl ?_
    refine RunT.xn rfl rfl rfl rfl rfl rfl ?_
    refine RunT.xn rfl rfl rfl rfl rfl rfl ?_
    refine RunT.ot0 (x := .v (.bool false)) rfl rfl rfl rfl (.pickF rfl rfl) ?_
    refine RunT.ot0 (x := .v (.bool false)) rfl rfl rfl rfl (.moveX rfl) ?_
    refine RunT.xn rfl rfl rfl rfl rfl rfl ?_
    refine RunT.xn rfl rfl rfl rfl rfl rfl ?_
    refine RunT.xn rfl rfl rfl rfl rfl rfl ?_
    refine RunT.xn rfl rfl rfl rfl rfl rfl ?_
    refine RunT.ot0 (x := .v (.bool false)) rfl rfl rfl rfl (.pickF rfl rfl) ?_
    refine RunT.ot0 (x := .v (.bool false)) rfl rfl rfl rfl (.moveX rfl) ?_
    refine RunT.xn rfl rfl rfl rfl rfl rfl ?_
    refine RunT.xn rfl rfl rfl rfl rfl rfl ?_
    refine RunT.xn rfl rfl rfl rfl rfl rfl ?_
    refine RunT.xn rfl rfl rfl rfl rfl rfl ?_
    refine RunT.ot0 (x := .v (.bool false)) rfl rfl rfl rfl (.pickF rfl rfl) ?_
    refine RunT.ot0 (x := .v (.bool false)) rfl rfl rfl rfl (.assignX rfl) ?_
    refine RunT.nil ?_
    obtain rfl := si H
    refine T.sub (sub_to (st' := ⟨[(0, .v (.bool false))], [], 8, []⟩) [] (by decide) rfl rfl (⟨⟨_, rfl, .one .v⟩, trivial⟩) (trivial)) ?_
    refine T.ret ?_
    exact RetOk.same [.v (.bool false)] ⟨rfl, trivial⟩ rfl rfl rfl
set_option maxHeartbeats 4000000 in
theorem law8_KillMore_pc (al : Bool) (k : Nat) (a0 : (List Int)) (a1 : Int) (a2 : Int) (o : Bool) (H : law8_KillMore k a0 a1 a2 = some o) : PC Try.prog al 12 [.lst (List.map eI a0), .v (.int .i64 a1), .v (.int .i64 a2)] (.v (.bool o)) := by
  unfold law8_KillMore at H
  refine PC.of_T Try.func12 rfl rfl (n := 91) rfl rfl (.inr rfl) ?_
  intro base B w0
  refine T.st (st' := ⟨[(0, .lst (List.map eI a0)), (1, .v (.int .i64 a1)), (2, .v (.int .i64 a2))], [], 0, []⟩) rfl ?_
  refine T.seq ?_
  refine T.region ?_
  refine RunT.ot0 (x := .v (.bool false)) rfl rfl rfl rfl (.assignX rfl) ?_
  refine RunT.nil ?_
  refine T.seq ?_
  refine T.region ?_
  refine RunT.ot0 (x := .lst (List.map eI a0)) rfl rfl rfl rfl (.moveX rfl) ?_
  obtain ⟨r1, h2, H⟩ := bs H
  refine RunT.ot0 (x := .agg [.lst (List.map eSeat r1.Seats), .v (.int .i64 r1.Gap), .v (.int .i64 r1.Radius), .lst (List.map eI r1.Kills), .lst (List.map ePole r1.Poles)]) rfl rfl rfl rfl (.callp (PC.frozen (law3_Make_pc false k a0 30 r1 h2)) rfl ⟨(.one .lst), (.one .v), trivial⟩ rfl rfl rfl) ?_
  refine RunT.ot1 (x := .ptr 0 0) (p0 := (0, some (.box [.v (.slice none 0 0), .v (.int .i64 0), .v (.int .i64 0), .v (.slice none 0 0), .v (.slice none 0 0)]))) (n' := 8) rfl rfl rfl rfl (.allocX in26.zero rfl rfl) rfl ?_
  refine RunT.on1 (x := .junk) (p0 := (0, some (.box [.lst (List.map eSeat r1.Seats), .v (.int .i64 r1.Gap), .v (.int .i64 r1.Radius), .lst (List.map eI r1.Kills), .lst (List.map ePole r1.Poles)]))) (n' := 16) rfl rfl rfl (.storePX ty26 rfl rfl rfl rfl rfl rfl rfl) rfl ?_
  refine RunT.nil ?_
  refine T.seq ?_
  refine T.region ?_
  refine RunT.ot0 (x := .v (.int .i64 a1)) rfl rfl rfl rfl (.moveX rfl) ?_
  refine RunT.ot0 (x := .v (.int .u64 (IntKind.u64.wrap a1))) rfl rfl rfl rfl (.conv rfl (fun w => c_int w ⟨_, Try.underlying3⟩ Try.underlying41) rfl) ?_
  refine RunT.ot0 (x := .ptr 0 0) rfl rfl rfl rfl (.fieldPX fl26_0 rfl rfl) ?_
  refine RunT.ot0 (x := .lst (List.map eSeat r1.Seats)) rfl rfl rfl rfl (.loadP ty22 rfl rfl rfl) ?_
  refine RunT.ot0 (x := .v (.int .i64 (r1.Seats.length : Int))) rfl rfl rfl rfl (.lenLm Try.underlying22 rfl rfl) ?_
  refine RunT.ot0 (x := .v (.int .u64 (IntKind.u64.wrap (r1.Seats.length : Int)))) rfl rfl rfl rfl (.conv rfl (fun w => c_int w ⟨_, Try.underlying3⟩ Try.underlying41) rfl) ?_
  obtain ⟨h3, H⟩ := gs H
  refine RunT.ot0 (x := .v (.int .u64 ((IntKind.u64.wrap a1).tmod (IntKind.u64.wrap (r1.Seats.length : Int))))) rfl rfl rfl rfl (.bin rfl rfl (fun w => b_rem w (of_decide_eq_true h3)) rfl) ?_
  refine RunT.ot0 (x := .v (.int .i64 (wr ((IntKind.u64.wrap a1).tmod (IntKind.u64.wrap (r1.Seats.length : Int)))))) rfl rfl rfl rfl (.conv rfl (fun w => c_intw w ⟨_, Try.underlying41⟩ Try.underlying3) rfl) ?_
  refine RunT.ot0 (x := .v (.int .i64 (wr ((IntKind.u64.wrap a1).tmod (IntKind.u64.wrap (r1.Seats.length : Int)))))) rfl rfl rfl rfl (.assignX rfl) ?_
  refine RunT.nil ?_
  refine T.seq ?_
  refine T.region ?_
  refine RunT.ot0 (x := .agg [.lst (List.map eSeat r1.Seats), .v (.int .i64 r1.Gap), .v (.int .i64 r1.Radius), .lst (List.map eI r1.Kills), .lst (List.map ePole r1.Poles)]) rfl rfl rfl rfl (.loadP ty26 rfl rfl rfl) ?_
  refine RunT.ot1 (x := .ptr 16 0) (p0 := (16, some (.box [.v (.slice none 0 0), .v (.int .i64 0), .v (.int .i64 0), .v (.slice none 0 0), .v (.slice none 0 0)]))) (n' := 24) rfl rfl rfl rfl (.allocX in26.zero rfl rfl) rfl ?_
  refine RunT.on1 (x := .junk) (p0 := (16, some (.box [.lst (List.map eSeat r1.Seats), .v (.int .i64 r1.Gap), .v (.int .i64 r1.Radius), .lst (List.map eI r1.Kills), .lst (List.map ePole r1.Poles)]))) (n' := 32) rfl rfl rfl (.storePX ty26 rfl rfl rfl rfl rfl rfl rfl) rfl ?_
  refine RunT.nil ?_
  refine T.seq ?_
  refine T.sub (sub_pick [2, 7, 8, 9] [0, 16] (st' := ⟨[(2, .v (.int .i64 a2)), (7, .ptr 0 0), (8, .v (.int .i64 (wr ((IntKind.u64.wrap a1).tmod (IntKind.u64.wrap (r1.Seats.length : Int)))))), (9, .ptr 16 0)], [(0, some (.box [.lst (List.map eSeat r1.Seats), .v (.int .i64 r1.Gap), .v (.int .i64 r1.Radius), .lst (List.map eI r1.Kills), .lst (List.map ePole r1.Poles)])), (16, some (.box [.lst (List.map eSeat r1.Seats), .v (.int .i64 r1.Gap), .v (.int .i64 r1.Radius), .lst (List.map eI r1.Kills), .lst (List.map ePole r1.Poles)]))], 32, []⟩) rfl rfl rfl rfl rfl) ?_
  refine T.draw (wr := [(3, [32]), (23, [56]), (25, [16])]) mixed rfl rfl ?_ rfl
  refine RunD.ot1 (x := .own 32 0 ((([] : List Pole)).length)) (p0 := (32, some (.arr false 3 (List.map ePole ([] : List Pole))))) rfl rfl rfl rfl (.bslicem (d := false) (l := ([] : List Pole)) (f := ePole) sl24 rfl rfl rfl enc_Pole rfl) rfl ?_
  refine RunD.ot0 (x := .ptr 0 4) rfl rfl rfl rfl (.fieldPX fl26_4 rfl rfl) rfl ?_
  refine RunD.ot0 (x := .lst (List.map ePole r1.Poles)) rfl rfl rfl rfl (.loadP ty24 rfl rfl rfl) rfl ?_
  obtain ⟨h10, H⟩ := gs H
  refine RunD.ot2 (x := .own 56 0 ((([] : List Pole) ++ r1.Poles).length)) (p0 := (56, some (.arr false 3 (List.map ePole (([] : List Pole) ++ r1.Poles))))) (p1 := (32, none)) rfl rfl rfl rfl (.appOn (d := false) (l := ([] : List Pole)) (m := r1.Poles) (f := ePole) rfl sl24 rfl rfl rfl (.lstm Try.underlying24 enc_Pole) rfl h10) rfl ?_
  refine RunD.ot0 (x := .ptr 0 0) rfl rfl rfl rfl (.fieldPX fl26_0 rfl rfl) rfl ?_
  refine RunD.ot0 (x := .lst (List.map eSeat r1.Seats)) rfl rfl rfl rfl (.loadP ty22 rfl rfl rfl) rfl ?_
  refine RunD.ot0 (x := .v (.int .i64 (wr ((IntKind.u64.wrap a1).tmod (IntKind.u64.wrap (r1.Seats.length : Int)))))) rfl rfl rfl rfl (.moveX rfl) rfl ?_
  obtain ⟨y11, h12, H⟩ := bs H
  refine RunD.ot0 (x := .rptr [.v (.int .i64 y11.Row), .v (.int .i64 y11.X), .v (.int .i64 y11.Y), .v (.int .i64 y11.Kind)]) rfl rfl rfl rfl (.idxLX h12 enc_Seat sl22 rfl rfl rfl) rfl ?_
  refine RunD.ot0 (x := .rptr [.v (.int .i64 y11.X), .v (.int .i64 y11.Y), .v (.int .i64 y11.Kind)]) rfl rfl rfl rfl (.fieldRX fl28_1 rfl rfl) rfl ?_
  refine RunD.ot0 (x := .v (.int .i64 y11.X)) rfl rfl rfl rfl (.loadR ty3 rfl rfl) rfl ?_
  refine RunD.ot0 (x := .ptr 0 0) rfl rfl rfl rfl (.fieldPX fl26_0 rfl rfl) rfl ?_
  refine RunD.ot0 (x := .lst (List.map eSeat r1.Seats)) rfl rfl rfl rfl (.loadP ty22 rfl rfl rfl) rfl ?_
  refine RunD.ot0 (x := .v (.int .i64 (wr ((IntKind.u64.wrap a1).tmod (IntKind.u64.wrap (r1.Seats.length : Int)))))) rfl rfl rfl rfl (.moveX rfl) rfl ?_
  obtain ⟨y13, h14, H⟩ := bs H
  refine RunD.ot0 (x := .rptr [.v (.int .i64 y13.Row), .v (.int .i64 y13.X), .v (.int .i64 y13.Y), .v (.int .i64 y13.Kind)]) rfl rfl rfl rfl (.idxLX h14 enc_Seat sl22 rfl rfl rfl) rfl ?_
  refine RunD.ot0 (x := .rptr [.v (.int .i64 y13.Y), .v (.int .i64 y13.Kind)]) rfl rfl rfl rfl (.fieldRX fl28_2 rfl rfl) rfl ?_
  refine RunD.ot0 (x := .v (.int .i64 y13.Y)) rfl rfl rfl rfl (.loadR ty3 rfl rfl) rfl ?_
  refine RunD.ot0 (x := .v (.int .i64 a2)) rfl rfl rfl rfl (.moveX rfl) rfl ?_
  refine RunD.ot0 (x := .v (.int .u64 (IntKind.u64.wrap a2))) rfl rfl rfl rfl (.conv rfl (fun w => c_int w ⟨_, Try.underlying3⟩ Try.underlying41) rfl) rfl ?_
  refine RunD.ot0 (x := .v (.int .u64 ((IntKind.u64.wrap a2).tmod 30))) rfl rfl rfl rfl (.bin rfl rfl (fun w => b_rem w (by decide)) rfl) rfl ?_
  refine RunD.ot0 (x := .v (.int .i64 (wr ((IntKind.u64.wrap a2).tmod 30)))) rfl rfl rfl rfl (.conv rfl (fun w => c_intw w ⟨_, Try.underlying41⟩ Try.underlying3) rfl) rfl ?_
  refine RunD.ot0 (x := .v (.int .i64 (wr (1 + (wr ((IntKind.u64.wrap a2).tmod 30)))))) rfl rfl rfl rfl (.bin rfl rfl (fun w => b_addw w) rfl) rfl ?_
  refine RunD.ot0 (x := .agg [.v (.int .i64 y11.X), .v (.int .i64 y13.Y), .v (.int .i64 (wr (1 + (wr ((IntKind.u64.wrap a2).tmod 30)))))]) rfl rfl rfl rfl (.bu bu60 rfl) rfl ?_
  refine RunD.ot1 (x := .own 208 0 (([Pole.mk y11.X y13.Y (wr (1 + (wr ((IntKind.u64.wrap a2).tmod 30))))]).length)) (p0 := (208, some (.arr false 3 (List.map ePole [Pole.mk y11.X y13.Y (wr (1 + (wr ((IntKind.u64.wrap a2).tmod 30))))])))) rfl rfl rfl rfl (.bslicem (d := false) (l := [Pole.mk y11.X y13.Y (wr (1 + (wr ((IntKind.u64.wrap a2).tmod 30))))]) (f := ePole) sl24 rfl rfl rfl enc_Pole rfl) rfl ?_
  obtain ⟨h15, H⟩ := gs H
  refine RunD.ot2 (x := .own 216 0 (((([] : List Pole) ++ r1.Poles) ++ [Pole.mk y11.X y13.Y (wr (1 + (wr ((IntKind.u64.wrap a2).tmod 30))))]).length)) (p0 := (216, some (.arr false 3 (List.map ePole ((([] : List Pole) ++ r1.Poles) ++ [Pole.mk y11.X y13.Y (wr (1 + (wr ((IntKind.u64.wrap a2).tmod 30))))]))))) (p1 := (56, none)) rfl rfl rfl rfl (.appOn (d := false) (l := ([] : List Pole) ++ r1.Poles) (m := [Pole.mk y11.X y13.Y (wr (1 + (wr ((IntKind.u64.wrap a2).tmod 30))))]) (f := ePole) rfl sl24 rfl rfl rfl (.ownn Try.underlying24 rfl rfl (fun h => by cases h)) rfl h15) rfl ?_
  refine RunD.ot0 (x := .ptr 16 4) rfl rfl rfl rfl (.fieldPX fl26_4 rfl rfl) rfl ?_
  refine RunD.on1 (x := .junk) (p0 := (16, some (.box [.lst (List.map eSeat r1.Seats), .v (.int .i64 r1.Gap), .v (.int .i64 r1.Radius), .lst (List.map eI r1.Kills), .own 216 0 (((([] : List Pole) ++ r1.Poles) ++ [Pole.mk y11.X y13.Y (wr (1 + (wr ((IntKind.u64.wrap a2).tmod 30))))]).length)]))) rfl rfl rfl (.storePX ty24 rfl rfl rfl rfl rfl rfl rfl) rfl ?_
  refine RunD.nil (by kernel_rfl) ⟨rfl, rfl, ?_⟩
  refine T.seq ?_
  refine T.sub (sub_pick [7, 8, 9] [0, 16, 216] (st' := ⟨[(7, .ptr 0 0), (8, .v (.int .i64 (wr ((IntKind.u64.wrap a1).tmod (IntKind.u64.wrap (r1.Seats.length : Int)))))), (9, .ptr 16 0)], [(0, some (.box [.lst (List.map eSeat r1.Seats), .v (.int .i64 r1.Gap), .v (.int .i64 r1.Radius), .lst (List.map eI r1.Kills), .lst (List.map ePole r1.Poles)])), (16, some (.box [.lst (List.map eSeat r1.Seats), .v (.int .i64 r1.Gap), .v (.int .i64 r1.Radius), .lst (List.map eI r1.Kills), .own 216 0 (((([] : List Pole) ++ r1.Poles) ++ [Pole.mk y11.X y13.Y (wr (1 + (wr ((IntKind.u64.wrap a2).tmod 30))))]).length)])), (216, some (.arr false 3 (List.map ePole ((([] : List Pole) ++ r1.Poles) ++ [Pole.mk y11.X y13.Y (wr (1 + (wr ((IntKind.u64.wrap a2).tmod 30))))]))))], 240, []⟩) rfl rfl rfl rfl rfl) ?_
  refine T.draw (wr := []) mixed rfl rfl ?_ rfl
  refine RunD.ot0 (x := .agg [.lst (List.map eSeat r1.Seats), .v (.int .i64 r1.Gap), .v (.int .i64 r1.Radius), .lst (List.map eI r1.Kills), .lst (List.map ePole r1.Poles)]) rfl rfl rfl rfl (.loadP ty26 rfl rfl rfl) rfl ?_
  obtain ⟨r20, h21, H⟩ := bs H
  refine RunD.ot0 (x := .lst (List.map eB r20)) rfl rfl rfl rfl (.callp (PC.frozen (kill_Usable_pc false k r1 r20 h21)) rfl ⟨(.agg' ⟨.lst, .v, .v, .lst, .lst, trivial⟩), trivial⟩ rfl rfl rfl) rfl ?_
  refine RunD.ot0 (x := .agg [.lst (List.map eSeat r1.Seats), .v (.int .i64 r1.Gap), .v (.int .i64 r1.Radius), .lst (List.map eI r1.Kills), .own 216 0 (((([] : List Pole) ++ r1.Poles) ++ [Pole.mk y11.X y13.Y (wr (1 + (wr ((IntKind.u64.wrap a2).tmod 30))))]).length)]) rfl rfl rfl rfl (.loadP ty26 rfl rfl rfl) rfl ?_
  obtain ⟨r22, h23, H⟩ := bs H
  refine RunD.ot0 (x := .lst (List.map eB r22)) rfl rfl rfl rfl (.callp (PC.frozen (kill_Usable_pc false k (Venue.mk r1.Seats r1.Gap r1.Radius r1.Kills ((([] : List Pole) ++ r1.Poles) ++ [Pole.mk y11.X y13.Y (wr (1 + (wr ((IntKind.u64.wrap a2).tmod 30))))])) r22 h23)) rfl ⟨(.agg' ⟨.lst, .v, .v, .lst, (.all rfl (List.length_map _).symm), trivial⟩), trivial⟩ rfl rfl rfl) rfl ?_
  refine RunD.ot0 (x := .lst (List.map eB r20)) rfl rfl rfl rfl (.assignX rfl) rfl ?_
  refine RunD.ot0 (x := .lst (List.map eB r22)) rfl rfl rfl rfl (.assignX rfl) rfl ?_
  refine RunD.nil (by kernel_rfl) ⟨rfl, rfl, ?_⟩
  refine T.seq ?_
  obtain ⟨o25, E26, HO27⟩ := bs H
  refine T.cut (⟨[(8, .v (.int .i64 (wr ((IntKind.u64.wrap a1).tmod (IntKind.u64.wrap (r1.Seats.length : Int)))))), (10, .lst (List.map eB r20)), (11, .lst (List.map eB r22)), (65, .v (.bool o25))], [], 8, []⟩) ?_ ?_
  · have H := E26
    refine T.region ?_
    refine RunT.ot0 (x := .lst (List.map eB r20)) rfl rfl rfl rfl (.moveX rfl) ?_
    refine RunT.ot0 (x := .v (.int .i64 (r20.length : Int))) rfl rfl rfl rfl (.lenLm Try.underlying43 rfl rfl) ?_
    refine RunT.ot0 (x := .ptr 0 0) rfl rfl rfl rfl (.fieldPX fl26_0 rfl rfl) ?_
    refine RunT.ot0 (x := .lst (List.map eSeat r1.Seats)) rfl rfl rfl rfl (.loadP ty22 rfl rfl rfl) ?_
    refine RunT.ot0 (x := .v (.int .i64 (r1.Seats.length : Int))) rfl rfl rfl rfl (.lenLm Try.underlying22 rfl rfl) ?_
    refine RunT.ot0 (x := .v (.bool (!decide ((r20.length : Int) = (r1.Seats.length : Int))))) rfl rfl rfl rfl (.bin rfl rfl (fun w => b_neq w) rfl) ?_
    refine RunT.ot0 (x := .v (.bool (!decide ((r20.length : Int) = (r1.Seats.length : Int))))) rfl rfl rfl rfl (.moveX rfl) ?_
    refine RunT.cases (t := 59) (c := !decide ((r20.length : Int) = (r1.Seats.length : Int))) rfl (fun g28 => ?_) (fun g28 => ?_)
    · replace H := ct H g28
      refine RunT.xn rfl rfl rfl (bo g28) rfl rfl ?_
      refine RunT.xn rfl rfl rfl (bo g28) rfl rfl ?_
      refine RunT.xn rfl rfl rfl (bo g28) rfl rfl ?_
      refine RunT.xn rfl rfl rfl (bo g28) rfl rfl ?_
      refine RunT.xn rfl rfl rfl (bo g28) rfl rfl ?_
      refine RunT.ot0 (x := .v (.bool true)) rfl rfl rfl rfl (.pickT (bo g28) rfl) ?_
      refine RunT.nil ?_
      obtain rfl := si H
      exact (sub_to [] (by decide) rfl rfl (⟨⟨_, rfl, .one .v⟩, ⟨⟨_, rfl, .one .lst⟩, ⟨⟨_, rfl, .one .lst⟩, ⟨⟨_, rfl, .one .v⟩, trivial⟩⟩⟩⟩) (trivial))
    · replace H := cf H g28
      refine RunT.gt0 (x := .lst (List.map eB r22)) rfl rfl rfl (bo g28) rfl rfl (.moveX rfl) ?_
      refine RunT.gt0 (x := .v (.int .i64 (r22.length : Int))) rfl rfl rfl (bo g28) rfl rfl (.lenLm Try.underlying43 rfl rfl) ?_
      refine RunT.gt0 (x := .lst (List.map eB r20)) rfl rfl rfl (bo g28) rfl rfl (.moveX rfl) ?_
      refine RunT.gt0 (x := .v (.int .i64 (r20.length : Int))) rfl rfl rfl (bo g28) rfl rfl (.lenLm Try.underlying43 rfl rfl) ?_
      refine RunT.gt0 (x := .v (.bool (!decide ((r22.length : Int) = (r20.length : Int))))) rfl rfl rfl (bo g28) rfl rfl (.bin rfl rfl (fun w => b_neq w) rfl) ?_
      refine RunT.ot0 (x := .v (.bool (!decide ((r22.length : Int) = (r20.length : Int))))) rfl rfl rfl rfl (.pickF (bo g28) rfl) ?_
      refine RunT.nil ?_
      obtain rfl := si H
      exact (sub_to [] (by decide) rfl rfl (⟨⟨_, rfl, .one .v⟩, ⟨⟨_, rfl, .one .lst⟩, ⟨⟨_, rfl, .one .lst⟩, ⟨⟨_, rfl, .one .v⟩, trivial⟩⟩⟩⟩) (trivial))
  · have H := HO27
    refine T.cond2 (t := o25) rfl (fun c29 => ?_) (fun c29 => ?_)
    · replace H := ct H c29
      refine T.seq ?_
      refine T.sub (sub_pick [] [] (st' := ⟨[], [], 8, []⟩) rfl rfl rfl rfl rfl) ?_
      refine T.region ?_
      refine RunT.ot0 (x := .v (.bool false)) rfl rfl rfl rfl (.assignX rfl) ?_
      refine RunT.nil ?_
      obtain rfl := si H
      refine T.sub (sub_to (st' := ⟨[(6, .v (.bool false))], [], 8, []⟩) [] (by decide) rfl rfl (⟨⟨_, rfl, .one .v⟩, trivial⟩) (trivial)) ?_
      refine T.ret ?_
      exact RetOk.same [.v (.bool false)] ⟨rfl, trivial⟩ rfl rfl rfl
    · replace H := cf H c29
      refine T.skip ?_
      refine T.seq ?_
      refine T.seq ?_
      refine T.region ?_
      refine RunT.ot0 (x := .v (.int .i64 0)) rfl rfl rfl rfl (.assignX rfl) ?_
      refine RunT.nil ?_
      obtain ⟨o45, E46, HO47⟩ := bs H
      refine T.cutPE (fun v48 => o45 = .go v48) (fun v48 => ⟨[(8, .v (.int .i64 (wr ((IntKind.u64.wrap a1).tmod (IntKind.u64.wrap (r1.Seats.length : Int)))))), (11, .lst (List.map eB r22))], [], 8, []⟩) ?_ ?_
      · have H := E46
        refine T.block ?_
        refine T.loopS (fun n s => ∃ (v49 : Int), law8_KillMore_l0 k r20 r22 n v49 = some o45 ∧ s = ⟨[(8, .v (.int .i64 (wr ((IntKind.u64.wrap a1).tmod (IntKind.u64.wrap (r1.Seats.length : Int)))))), (10, .lst (List.map eB r20)), (11, .lst (List.map eB r22)), (12, .v (.int .i64 v49))], [], 8, []⟩) k ⟨_, ⟨0, H, rfl⟩, sub_to [] (by decide) rfl rfl (⟨⟨_, rfl, .one .v⟩, ⟨⟨_, rfl, .one .lst⟩, ⟨⟨_, rfl, .one .lst⟩, ⟨⟨_, rfl, .one .v⟩, trivial⟩⟩⟩⟩) (trivial)⟩ ?_
        rintro n s ⟨v49, H, rfl⟩
        rcases n with _ | n
        · cases (show none = some _ from H)
        rw [law8_KillMore_l0] at H
        refine T.seq ?_
        refine T.seq ?_
        refine T.region ?_
        refine RunT.ot0 (x := .v (.int .i64 v49)) rfl rfl rfl rfl (.moveX rfl) ?_
        refine RunT.ot0 (x := .lst (List.map eB r20)) rfl rfl rfl rfl (.moveX rfl) ?_
        refine RunT.ot0 (x := .v (.int .i64 (r20.length : Int))) rfl rfl rfl rfl (.lenLm Try.underlying43 rfl rfl) ?_
        refine RunT.ot0 (x := .v (.bool (decide (v49 < (r20.length : Int))))) rfl rfl rfl rfl (.bin rfl rfl (fun w => b_lss w) rfl) ?_
        refine RunT.nil ?_
        refine T.cond2 (t := decide (v49 < (r20.length : Int))) rfl (fun c50 => ?_) (fun c50 => ?_)
        · replace H := ct H c50
          refine T.skip ?_
          refine T.seq ?_
          refine T.block ?_
          refine T.seq ?_
          refine T.region ?_
          refine RunT.ot0 (x := .lst (List.map eB r22)) rfl rfl rfl rfl (.moveX rfl) ?_
          refine RunT.ot0 (x := .v (.int .i64 v49)) rfl rfl rfl rfl (.moveX rfl) ?_
          obtain ⟨y51, h52, H⟩ := bs H
          refine RunT.ot0 (x := .rptr [.v (.bool y51)]) rfl rfl rfl rfl (.idxLX h52 enc_B sl43 rfl rfl rfl) ?_
          refine RunT.ot0 (x := .v (.bool y51)) rfl rfl rfl rfl (.loadR ty4 rfl rfl) ?_
          refine RunT.ot0 (x := .v (.bool y51)) rfl rfl rfl rfl (.moveX rfl) ?_
          refine RunT.cases (t := 76) (c := y51) rfl (fun g53 => ?_) (fun g53 => ?_)
          · replace H := ct H g53
            refine RunT.gt0 (x := .lst (List.map eB r20)) rfl rfl rfl (bo g53) rfl rfl (.moveX rfl) ?_
            refine RunT.gt0 (x := .v (.int .i64 v49)) rfl rfl rfl (bo g53) rfl rfl (.moveX rfl) ?_
            obtain ⟨y54, h55, H⟩ := bs H
            refine RunT.gt0 (x := .rptr [.v (.bool y54)]) rfl rfl rfl (bo g53) rfl rfl (.idxLX h55 enc_B sl43 rfl rfl rfl) ?_
            refine RunT.gt0 (x := .v (.bool y54)) rfl rfl rfl (bo g53) rfl rfl (.loadR ty4 rfl rfl) ?_
            refine RunT.gt0 (x := .v (.bool (!y54))) rfl rfl rfl (bo g53) rfl rfl (.un rfl (fun w => u_not w) rfl) ?_
            refine RunT.ot0 (x := .v (.bool (!y54))) rfl rfl rfl rfl (.pickT (bo g53) rfl) ?_
            refine RunT.nil ?_
            refine T.cond2 (t := !y54) rfl (fun c56 => ?_) (fun c56 => ?_)
            · replace H := ct H c56
              refine T.seq ?_
              refine T.sub (sub_pick [] [] (st' := ⟨[], [], 8, []⟩) rfl rfl rfl rfl rfl) ?_
              refine T.region ?_
              refine RunT.ot0 (x := .v (.bool false)) rfl rfl rfl rfl (.assignX rfl) ?_
              refine RunT.nil ?_
              obtain rfl := si H
              have HX := exr HO47
              obtain rfl := si HX
              refine T.sub (sub_to (st' := ⟨[(6, .v (.bool false))], [], 8, []⟩) [] (by decide) rfl rfl (⟨⟨_, rfl, .one .v⟩, trivial⟩) (trivial)) ?_
              refine T.ret ?_
              exact RetOk.same [.v (.bool false)] ⟨rfl, trivial⟩ rfl rfl rfl
            · replace H := cf H c56
              refine T.skip ?_
              refine T.region ?_
              refine RunT.ot0 (x := .v (.int .i64 v49)) rfl rfl rfl rfl (.moveX rfl) ?_
              refine RunT.ot0 (x := .v (.int .i64 (wr (v49 + 1)))) rfl rfl rfl rfl (.bin rfl rfl (fun w => b_addw w) rfl) ?_
              refine RunT.ot0 (x := .v (.int .i64 (wr (v49 + 1)))) rfl rfl rfl rfl (.assignX rfl) ?_
              refine RunT.nil ?_
              exact ⟨n, Nat.lt_succ_self n, _, ⟨wr (v49 + 1), H, rfl⟩, (sub_to [] (by decide) rfl rfl (⟨⟨_, rfl, .one .v⟩, ⟨⟨_, rfl, .one .lst⟩, ⟨⟨_, rfl, .one .lst⟩, ⟨⟨_, rfl, .one .v⟩, trivial⟩⟩⟩⟩) (trivial))⟩
          · replace H := cf H g53
            refine RunT.xn rfl rfl rfl (bo g53) rfl rfl ?_
            refine RunT.xn rfl rfl rfl (bo g53) rfl rfl ?_
            refine RunT.xn rfl rfl rfl (bo g53) rfl rfl ?_
            refine RunT.xn rfl rfl rfl (bo g53) rfl rfl ?_
            refine RunT.xn rfl rfl rfl (bo g53) rfl rfl ?_
            refine RunT.ot0 (x := .v (.bool false)) rfl rfl rfl rfl (.pickF (bo g53) rfl) ?_
            refine RunT.nil ?_
            refine T.condF rfl ?_
            refine T.skip ?_
            refine T.region ?_
            refine RunT.ot0 (x := .v (.int .i64 v49)) rfl rfl rfl rfl (.moveX rfl) ?_
            refine RunT.ot0 (x := .v (.int .i64 (wr (v49 + 1)))) rfl rfl rfl rfl (.bin rfl rfl (fun w => b_addw w) rfl) ?_
            refine RunT.ot0 (x := .v (.int .i64 (wr (v49 + 1)))) rfl rfl rfl rfl (.assignX rfl) ?_
            refine RunT.nil ?_
            exact ⟨n, Nat.lt_succ_self n, _, ⟨wr (v49 + 1), H, rfl⟩, (sub_to [] (by decide) rfl rfl (⟨⟨_, rfl, .one .v⟩, ⟨⟨_, rfl, .one .lst⟩, ⟨⟨_, rfl, .one .lst⟩, ⟨⟨_, rfl, .one .v⟩, trivial⟩⟩⟩⟩) (trivial))⟩
        · replace H := cf H c50
          refine T.exit ?_
          obtain rfl := si H
          exact ⟨_, rfl, (sub_to [] (by decide) rfl rfl (⟨⟨_, rfl, .one .v⟩, ⟨⟨_, rfl, .one .lst⟩, trivial⟩⟩) (trivial))⟩
      · intro v48 s hR hS
        subst hR
        have H := exg HO47
        refine T.sub hS ?_
        refine T.seq ?_
        refine T.region ?_
        obtain ⟨r57, h58, H⟩ := bs H
        refine RunT.ot0 (x := .v (.bool r57)) rfl rfl rfl rfl (.callp (law8_told_pc false k  r57 h58) rfl trivial rfl rfl rfl) ?_
        refine RunT.ot0 (x := .v (.bool r57)) rfl rfl rfl rfl (.moveX rfl) ?_
        refine RunT.cases (t := 84) (c := r57) rfl (fun g59 => ?_) (fun g59 => ?_)
        · replace H := ct H g59
          refine RunT.gt0 (x := .lst (List.map eB r22)) rfl rfl rfl (bo g59) rfl rfl (.moveX rfl) ?_
          refine RunT.gt0 (x := .v (.int .i64 (wr ((IntKind.u64.wrap a1).tmod (IntKind.u64.wrap (r1.Seats.length : Int)))))) rfl rfl rfl (bo g59) rfl rfl (.moveX rfl) ?_
          obtain ⟨y60, h61, H⟩ := bs H
          refine RunT.gt0 (x := .rptr [.v (.bool y60)]) rfl rfl rfl (bo g59) rfl rfl (.idxLX h61 enc_B sl43 rfl rfl rfl) ?_
          refine RunT.gt0 (x := .v (.bool y60)) rfl rfl rfl (bo g59) rfl rfl (.loadR ty4 rfl rfl) ?_
          refine RunT.gt0 (x := .v (.bool (!y60))) rfl rfl rfl (bo g59) rfl rfl (.un rfl (fun w => u_not w) rfl) ?_
          refine RunT.ot0 (x := .v (.bool (!y60))) rfl rfl rfl rfl (.pickT (bo g59) rfl) ?_
          refine RunT.ot0 (x := .v (.bool (!y60))) rfl rfl rfl rfl (.assignX rfl) ?_
          refine RunT.nil ?_
          obtain rfl := si H
          refine T.sub (sub_to (st' := ⟨[(6, .v (.bool (!y60)))], [], 8, []⟩) [] (by decide) rfl rfl (⟨⟨_, rfl, .one .v⟩, trivial⟩) (trivial)) ?_
          refine T.ret ?_
          exact RetOk.same [.v (.bool (!y60))] ⟨rfl, trivial⟩ rfl rfl rfl
        · replace H := cf H g59
          refine RunT.xn rfl rfl rfl (bo g59) rfl rfl ?_
          refine RunT.xn rfl rfl rfl (bo g59) rfl rfl ?_
          refine RunT.xn rfl rfl rfl (bo g59) rfl rfl ?_
          refine RunT.xn rfl rfl rfl (bo g59) rfl rfl ?_
          refine RunT.xn rfl rfl rfl (bo g59) rfl rfl ?_
          refine RunT.ot0 (x := .v (.bool false)) rfl rfl rfl rfl (.pickF (bo g59) rfl) ?_
          refine RunT.ot0 (x := .v (.bool false)) rfl rfl rfl rfl (.assignX rfl) ?_
          refine RunT.nil ?_
          obtain rfl := si H
          refine T.sub (sub_to (st' := ⟨[(6, .v (.bool false))], [], 8, []⟩) [] (by decide) rfl rfl (⟨⟨_, rfl, .one .v⟩, trivial⟩) (trivial)) ?_
          refine T.ret ?_
          exact RetOk.same [.v (.bool false)] ⟨rfl, trivial⟩ rfl rfl rfl
end Go.Proofs.Ytlfpkjlaajfjnaa
