/- The Go functions come to just what their plain forms come to: one contract each. -/
import Derived.Test.YtlfpkjlaajfjnaaYRunAsks0
set_option linter.unusedVariables false
set_option linter.unusedSimpArgs false
set_option maxRecDepth 100000
namespace Go.Proofs.Ytlfpkjlaajfjnaa
open Go Go.Sh Go.Px
attribute [local irreducible] Go.Sh.T Go.Sh.RunT Go.Sh.RunD
set_option maxHeartbeats 4000000 in
theorem law7_told_pc (al : Bool) (k : Nat)  (o : Bool) (H : law7_told k  = some o) : PC Try.prog al 41 [] (.v (.bool o)) := by
  unfold law7_told at H
  refine PC.of_T Try.func41 rfl rfl (n := 111) rfl rfl (.inr rfl) ?_
  intro base B w0
  refine T.st (st' := ⟨[], [], 0, []⟩) rfl ?_
  refine T.seq ?_
  refine T.region ?_
  refine RunT.ot0 (x := .v (.bool false)) rfl rfl rfl rfl (.assignX rfl) ?_
  refine RunT.nil ?_
  refine T.seq ?_
  refine T.region ?_
  refine RunT.ot0 (x := .agg [.v (.int .i64 0), .v (.int .i64 0), .v (.int .i64 0), .v (.int .i64 0)]) rfl rfl rfl rfl (.bu bu28 rfl) ?_
  refine RunT.ot0 (x := .agg [.v (.int .i64 0), .v (.int .i64 10), .v (.int .i64 0), .v (.int .i64 0)]) rfl rfl rfl rfl (.bu bu28 rfl) ?_
  refine RunT.ot0 (x := .agg [.v (.int .i64 0), .v (.int .i64 21), .v (.int .i64 0), .v (.int .i64 0)]) rfl rfl rfl rfl (.bu bu28 rfl) ?_
  refine RunT.ot0 (x := .agg [.v (.int .i64 0), .v (.int .i64 31), .v (.int .i64 0), .v (.int .i64 0)]) rfl rfl rfl rfl (.bu bu28 rfl) ?_
  refine RunT.ot0 (x := .agg [.v (.int .i64 1), .v (.int .i64 35), .v (.int .i64 0), .v (.int .i64 0)]) rfl rfl rfl rfl (.bu bu28 rfl) ?_
  refine RunT.ot1 (x := .own 0 0 (([Seat.mk 0 0 0 0, Seat.mk 0 10 0 0, Seat.mk 0 21 0 0, Seat.mk 0 31 0 0, Seat.mk 1 35 0 0]).length)) (p0 := (0, some (.arr false 4 (List.map eSeat [Seat.mk 0 0 0 0, Seat.mk 0 10 0 0, Seat.mk 0 21 0 0, Seat.mk 0 31 0 0, Seat.mk 1 35 0 0])))) (n' := 8) rfl rfl rfl rfl (.bslicem (d := false) (l := [Seat.mk 0 0 0 0, Seat.mk 0 10 0 0, Seat.mk 0 21 0 0, Seat.mk 0 31 0 0, Seat.mk 1 35 0 0]) (f := eSeat) sl22 rfl rfl rfl enc_Seat rfl) rfl ?_
  refine RunT.ot0 (x := .agg [.own 0 0 (([Seat.mk 0 0 0 0, Seat.mk 0 10 0 0, Seat.mk 0 21 0 0, Seat.mk 0 31 0 0, Seat.mk 1 35 0 0]).length), .v (.int .i64 10), .v (.int .i64 0), .v (.slice none 0 0), .v (.slice none 0 0)]) rfl rfl rfl rfl (.bu bu26 rfl) ?_
  refine RunT.ot1 (x := .ptr 8 0) (p0 := (8, some (.box [.v (.slice none 0 0), .v (.int .i64 0), .v (.int .i64 0), .v (.slice none 0 0), .v (.slice none 0 0)]))) (n' := 16) rfl rfl rfl rfl (.allocX in26.zero rfl rfl) rfl ?_
  refine RunT.on1 (x := .junk) (p0 := (8, some (.box [.own 0 0 (([Seat.mk 0 0 0 0, Seat.mk 0 10 0 0, Seat.mk 0 21 0 0, Seat.mk 0 31 0 0, Seat.mk 1 35 0 0]).length), .v (.int .i64 10), .v (.int .i64 0), .v (.slice none 0 0), .v (.slice none 0 0)]))) (n' := 24) rfl rfl rfl (.storePX ty26 rfl rfl rfl rfl rfl rfl rfl) rfl ?_
  refine RunT.nil ?_
  refine T.seq ?_
  refine T.region ?_
  refine RunT.ot1 (x := .own 24 0 (([true, true, true, true, true]).length)) (p0 := (24, some (.arr false 1 (List.map eB [true, true, true, true, true])))) (n' := 32) rfl rfl rfl rfl (.bslicem (d := false) (l := [true, true, true, true, true]) (f := eB) sl43 rfl rfl rfl enc_B rfl) rfl ?_
  refine RunT.ot0 (x := .own 24 0 (([true, true, true, true, true]).length)) rfl rfl rfl rfl (.assignX rfl) ?_
  refine RunT.nil ?_
  refine T.seq ?_
  refine T.sub (sub_to (st' := ⟨[(1, .ptr 0 0), (2, .own 1 0 (([true, true, true, true, true]).length))], [(0, some (.box [.lst (List.map eSeat [Seat.mk 0 0 0 0, Seat.mk 0 10 0 0, Seat.mk 0 21 0 0, Seat.mk 0 31 0 0, Seat.mk 1 35 0 0]), .v (.int .i64 10), .v (.int .i64 0), .v (.slice none 0 0), .v (.slice none 0 0)])), (1, some (.arr false 1 (List.map eB [true, true, true, true, true])))], 8, []⟩) [some 8, some 24] (by decide) rfl rfl (⟨⟨_, rfl, .one (.ptr rfl)⟩, ⟨⟨_, rfl, .one (.own rfl)⟩, trivial⟩⟩) (⟨⟨rfl, .inl ⟨_, _, rfl, rfl, .box ⟨(.frzF rfl rfl), .v, .v, .v, .v, trivial⟩⟩⟩, ⟨⟨rfl, .inl ⟨_, _, rfl, rfl, .arr rfl⟩⟩, trivial⟩⟩)) ?_
  refine T.sub (sub_to (st' := ⟨[(1, .ptr 0 0), (2, .lst (List.map eB [true, true, true, true, true]))], [(0, some (.box [.lst (List.map eSeat [Seat.mk 0 0 0 0, Seat.mk 0 10 0 0, Seat.mk 0 21 0 0, Seat.mk 0 31 0 0, Seat.mk 1 35 0 0]), .v (.int .i64 10), .v (.int .i64 0), .v (.slice none 0 0), .v (.slice none 0 0)]))], 8, []⟩) [some 0] (by decide) rfl rfl (⟨⟨_, rfl, .one (.ptr rfl)⟩, ⟨⟨_, rfl, .one (.frzF rfl rfl)⟩, trivial⟩⟩) (⟨⟨rfl, .inl ⟨_, _, rfl, rfl, .box ⟨.lst, .v, .v, .v, .v, trivial⟩⟩⟩, trivial⟩)) ?_
  refine T.sub (sub_pick [1, 2] [0] (st' := ⟨[(1, .ptr 0 0), (2, .lst (List.map eB [true, true, true, true, true]))], [(0, some (.box [.lst (List.map eSeat [Seat.mk 0 0 0 0, Seat.mk 0 10 0 0, Seat.mk 0 21 0 0, Seat.mk 0 31 0 0, Seat.mk 1 35 0 0]), .v (.int .i64 10), .v (.int .i64 0), .v (.slice none 0 0), .v (.slice none 0 0)]))], 8, []⟩) rfl rfl rfl rfl rfl) ?_
  refine T.region ?_
  refine RunT.ot0 (x := .agg [.lst (List.map eSeat [Seat.mk 0 0 0 0, Seat.mk 0 10 0 0, Seat.mk 0 21 0 0, Seat.mk 0 31 0 0, Seat.mk 1 35 0 0]), .v (.int .i64 10), .v (.int .i64 0), .v (.slice none 0 0), .v (.slice none 0 0)]) rfl rfl rfl rfl (.loadP ty26 rfl rfl rfl) ?_
  refine RunT.ot0 (x := .lst (List.map eB [true, true, true, true, true])) rfl rfl rfl rfl (.moveX rfl) ?_
  obtain ⟨r5, h6, H⟩ := bs H
  refine RunT.ot0 (x := .lst (List.map eLI r5)) rfl rfl rfl rfl (.callp (PC.frozen (run_Runs_pc k (Venue.mk [Seat.mk 0 0 0 0, Seat.mk 0 10 0 0, Seat.mk 0 21 0 0, Seat.mk 0 31 0 0, Seat.mk 1 35 0 0] 10 0 [] []) [true, true, true, true, true] r5 h6)) rfl ⟨(.agg ⟨(.inl ⟨rfl, rfl⟩), (.inl ⟨rfl, rfl⟩), (.inl ⟨rfl, rfl⟩), (.inr ⟨rfl, rfl⟩), (.inr ⟨rfl, rfl⟩), trivial⟩), (.same rfl), trivial⟩ rfl rfl rfl) ?_
  refine RunT.ot0 (x := .lst (List.map eLI r5)) rfl rfl rfl rfl (.assignX rfl) ?_
  refine RunT.nil ?_
  refine T.seq ?_
  refine T.region ?_
  refine RunT.ot0 (x := .agg [.lst (List.map eSeat [Seat.mk 0 0 0 0, Seat.mk 0 10 0 0, Seat.mk 0 21 0 0, Seat.mk 0 31 0 0, Seat.mk 1 35 0 0]), .v (.int .i64 10), .v (.int .i64 0), .v (.slice none 0 0), .v (.slice none 0 0)]) rfl rfl rfl rfl (.loadP ty26 rfl rfl rfl) ?_
  refine RunT.ot0 (x := .lst (List.map eB [true, true, true, true, true])) rfl rfl rfl rfl (.moveX rfl) ?_
  obtain ⟨r7, h8, H⟩ := bs H
  refine RunT.ot0 (x := .tup [.lst (List.map eI r7.1), .v (.bool r7.2)]) rfl rfl rfl rfl (.callp (PC.frozen (run_Of_pc false k (Venue.mk [Seat.mk 0 0 0 0, Seat.mk 0 10 0 0, Seat.mk 0 21 0 0, Seat.mk 0 31 0 0, Seat.mk 1 35 0 0] 10 0 [] []) [true, true, true, true, true] 2 2 r7 h8)) rfl ⟨(.agg' ⟨.lst, .v, .v, .nil, .nil, trivial⟩), (.one .lst), (.one .v), (.one .v), trivial⟩ rfl rfl rfl) ?_
  refine RunT.ot0 (x := .tup [.lst (List.map eI r7.1), .v (.bool r7.2)]) rfl rfl rfl rfl (.moveX rfl) ?_
  refine RunT.ot0 (x := .lst (List.map eI r7.1)) rfl rfl rfl rfl (.extract rfl rfl) ?_
  refine RunT.ot0 (x := .v (.bool r7.2)) rfl rfl rfl rfl (.extract rfl rfl) ?_
  refine RunT.ot0 (x := .lst (List.map eI r7.1)) rfl rfl rfl rfl (.assignX rfl) ?_
  refine RunT.ot0 (x := .v (.bool r7.2)) rfl rfl rfl rfl (.assignX rfl) ?_
  refine RunT.nil ?_
  refine T.seq ?_
  refine T.region ?_
  refine RunT.ot0 (x := .agg [.lst (List.map eSeat [Seat.mk 0 0 0 0, Seat.mk 0 10 0 0, Seat.mk 0 21 0 0, Seat.mk 0 31 0 0, Seat.mk 1 35 0 0]), .v (.int .i64 10), .v (.int .i64 0), .v (.slice none 0 0), .v (.slice none 0 0)]) rfl rfl rfl rfl (.loadP ty26 rfl rfl rfl) ?_
  refine RunT.ot0 (x := .lst (List.map eB [true, true, true, true, true])) rfl rfl rfl rfl (.moveX rfl) ?_
  obtain ⟨r9, h10, H⟩ := bs H
  refine RunT.ot0 (x := .tup [.lst (List.map eI r9.1), .v (.bool r9.2)]) rfl rfl rfl rfl (.callp (PC.frozen (run_Of_pc false k (Venue.mk [Seat.mk 0 0 0 0, Seat.mk 0 10 0 0, Seat.mk 0 21 0 0, Seat.mk 0 31 0 0, Seat.mk 1 35 0 0] 10 0 [] []) [true, true, true, true, true] 1 2 r9 h10)) rfl ⟨(.agg' ⟨.lst, .v, .v, .nil, .nil, trivial⟩), (.one .lst), (.one .v), (.one .v), trivial⟩ rfl rfl rfl) ?_
  refine RunT.ot0 (x := .tup [.lst (List.map eI r9.1), .v (.bool r9.2)]) rfl rfl rfl rfl (.moveX rfl) ?_
  refine RunT.ot0 (x := .lst (List.map eI r9.1)) rfl rfl rfl rfl (.extract rfl rfl) ?_
  refine RunT.ot0 (x := .v (.bool r9.2)) rfl rfl rfl rfl (.extract rfl rfl) ?_
  refine RunT.ot0 (x := .lst (List.map eI r9.1)) rfl rfl rfl rfl (.assignX rfl) ?_
  refine RunT.ot0 (x := .v (.bool r9.2)) rfl rfl rfl rfl (.assignX rfl) ?_
  refine RunT.nil ?_
  refine T.seq ?_
  refine T.sub (sub_pick [1, 2, 3, 4, 5, 7] [0] (st' := ⟨[(1, .ptr 0 0), (2, .lst (List.map eB [true, true, true, true, true])), (3, .lst (List.map eLI r5)), (4, .lst (List.map eI r7.1)), (5, .v (.bool r7.2)), (7, .v (.bool r9.2))], [(0, some (.box [.lst (List.map eSeat [Seat.mk 0 0 0 0, Seat.mk 0 10 0 0, Seat.mk 0 21 0 0, Seat.mk 0 31 0 0, Seat.mk 1 35 0 0]), .v (.int .i64 10), .v (.int .i64 0), .v (.slice none 0 0), .v (.slice none 0 0)]))], 8, []⟩) rfl rfl rfl rfl rfl) ?_
  refine T.draw (wr := []) mixed rfl rfl ?_ rfl
  refine RunD.ot0 (x := .agg [.lst (List.map eSeat [Seat.mk 0 0 0 0, Seat.mk 0 10 0 0, Seat.mk 0 21 0 0, Seat.mk 0 31 0 0, Seat.mk 1 35 0 0]), .v (.int .i64 10), .v (.int .i64 0), .v (.slice none 0 0), .v (.slice none 0 0)]) rfl rfl rfl rfl (.loadP ty26 rfl rfl rfl) rfl ?_
  obtain ⟨r51, h52, H⟩ := bs H
  refine RunD.ot0 (x := .v (.bool r51)) rfl rfl rfl rfl (.callp (run_Next_pc false k (Venue.mk [Seat.mk 0 0 0 0, Seat.mk 0 10 0 0, Seat.mk 0 21 0 0, Seat.mk 0 31 0 0, Seat.mk 1 35 0 0] 10 0 [] []) 0 r51 h52) rfl ⟨(.agg' ⟨.lst, .v, .v, .nil, .nil, trivial⟩), (.one .v), trivial⟩ rfl rfl rfl) rfl ?_
  refine RunD.ot0 (x := .v (.bool r51)) rfl rfl rfl rfl (.moveX rfl) rfl ?_
  refine RunD.cases (t := 33) (c := r51) rfl (fun g53 => ?_) (fun g53 => ?_)
  · replace H := ct H g53
    refine RunD.gt0 (x := .agg [.lst (List.map eSeat [Seat.mk 0 0 0 0, Seat.mk 0 10 0 0, Seat.mk 0 21 0 0, Seat.mk 0 31 0 0, Seat.mk 1 35 0 0]), .v (.int .i64 10), .v (.int .i64 0), .v (.slice none 0 0), .v (.slice none 0 0)]) rfl rfl rfl (bo g53) rfl rfl (.loadP ty26 rfl rfl rfl) rfl ?_
    obtain ⟨r54, h55, H⟩ := bs H
    refine RunD.gt0 (x := .v (.bool r54)) rfl rfl rfl (bo g53) rfl rfl (.callp (run_Next_pc false k (Venue.mk [Seat.mk 0 0 0 0, Seat.mk 0 10 0 0, Seat.mk 0 21 0 0, Seat.mk 0 31 0 0, Seat.mk 1 35 0 0] 10 0 [] []) 1 r54 h55) rfl ⟨(.agg' ⟨.lst, .v, .v, .nil, .nil, trivial⟩), (.one .v), trivial⟩ rfl rfl rfl) rfl ?_
    refine RunD.gt0 (x := .v (.bool (!r54))) rfl rfl rfl (bo g53) rfl rfl (.un rfl (fun w => u_not w) rfl) rfl ?_
    refine RunD.ot0 (x := .v (.bool (!r54))) rfl rfl rfl rfl (.pickT (bo g53) rfl) rfl ?_
    refine RunD.ot0 (x := .v (.bool (!r54))) rfl rfl rfl rfl (.moveX rfl) rfl ?_
    refine RunD.cases (t := 38) (c := !r54) rfl (fun g56 => ?_) (fun g56 => ?_)
    · replace H := ct H g56
      refine RunD.gt0 (x := .agg [.lst (List.map eSeat [Seat.mk 0 0 0 0, Seat.mk 0 10 0 0, Seat.mk 0 21 0 0, Seat.mk 0 31 0 0, Seat.mk 1 35 0 0]), .v (.int .i64 10), .v (.int .i64 0), .v (.slice none 0 0), .v (.slice none 0 0)]) rfl rfl rfl (bo g56) rfl rfl (.loadP ty26 rfl rfl rfl) rfl ?_
      obtain ⟨r57, h58, H⟩ := bs H
      refine RunD.gt0 (x := .v (.bool r57)) rfl rfl rfl (bo g56) rfl rfl (.callp (run_Next_pc false k (Venue.mk [Seat.mk 0 0 0 0, Seat.mk 0 10 0 0, Seat.mk 0 21 0 0, Seat.mk 0 31 0 0, Seat.mk 1 35 0 0] 10 0 [] []) 3 r57 h58) rfl ⟨(.agg' ⟨.lst, .v, .v, .nil, .nil, trivial⟩), (.one .v), trivial⟩ rfl rfl rfl) rfl ?_
      refine RunD.gt0 (x := .v (.bool (!r57))) rfl rfl rfl (bo g56) rfl rfl (.un rfl (fun w => u_not w) rfl) rfl ?_
      refine RunD.ot0 (x := .v (.bool (!r57))) rfl rfl rfl rfl (.pickT (bo g56) rfl) rfl ?_
      refine RunD.ot0 (x := .v (.bool (!r57))) rfl rfl rfl rfl (.moveX rfl) rfl ?_
      refine RunD.cases (t := 43) (c := !r57) rfl (fun g59 => ?_) (fun g59 => ?_)
      · replace H := ct H g59
        refine RunD.gt0 (x := .agg [.lst (List.map eSeat [Seat.mk 0 0 0 0, Seat.mk 0 10 0 0, Seat.mk 0 21 0 0, Seat.mk 0 31 0 0, Seat.mk 1 35 0 0]), .v (.int .i64 10), .v (.int .i64 0), .v (.slice none 0 0), .v (.slice none 0 0)]) rfl rfl rfl (bo g59) rfl rfl (.loadP ty26 rfl rfl rfl) rfl ?_
        obtain ⟨r60, h61, H⟩ := bs H
        refine RunD.gt0 (x := .v (.bool r60)) rfl rfl rfl (bo g59) rfl rfl (.callp (run_Next_pc false k (Venue.mk [Seat.mk 0 0 0 0, Seat.mk 0 10 0 0, Seat.mk 0 21 0 0, Seat.mk 0 31 0 0, Seat.mk 1 35 0 0] 10 0 [] []) 4 r60 h61) rfl ⟨(.agg' ⟨.lst, .v, .v, .nil, .nil, trivial⟩), (.one .v), trivial⟩ rfl rfl rfl) rfl ?_
        refine RunD.gt0 (x := .v (.bool (!r60))) rfl rfl rfl (bo g59) rfl rfl (.un rfl (fun w => u_not w) rfl) rfl ?_
        refine RunD.ot0 (x := .v (.bool (!r60))) rfl rfl rfl rfl (.pickT (bo g59) rfl) rfl ?_
        refine RunD.ot0 (x := .v (.bool (!r60))) rfl rfl rfl rfl (.moveX rfl) rfl ?_
        refine RunD.cases (t := 48) (c := !r60) rfl (fun g62 => ?_) (fun g62 => ?_)
        · replace H := ct H g62
          refine RunD.gt0 (x := .lst (List.map eLI r5)) rfl rfl rfl (bo g62) rfl rfl (.moveX rfl) rfl ?_
          refine RunD.gt0 (x := .v (.int .i64 (r5.length : Int))) rfl rfl rfl (bo g62) rfl rfl (.lenLm Try.underlying35 rfl rfl) rfl ?_
          refine RunD.gt0 (x := .v (.bool (decide ((r5.length : Int) = 3)))) rfl rfl rfl (bo g62) rfl rfl (.bin rfl rfl (fun w => b_eql w) rfl) rfl ?_
          refine RunD.ot0 (x := .v (.bool (decide ((r5.length : Int) = 3)))) rfl rfl rfl rfl (.pickT (bo g62) rfl) rfl ?_
          refine RunD.ot0 (x := .v (.bool (decide ((r5.length : Int) = 3)))) rfl rfl rfl rfl (.moveX rfl) rfl ?_
          refine RunD.cases (t := 53) (c := decide ((r5.length : Int) = 3)) rfl (fun g63 => ?_) (fun g63 => ?_)
          · replace H := ct H g63
            refine RunD.gt0 (x := .lst (List.map eLI r5)) rfl rfl rfl (bo g63) rfl rfl (.moveX rfl) rfl ?_
            obtain ⟨y64, h65, H⟩ := bs H
            refine RunD.gt0 (x := .rptr [.lst (List.map eI y64)]) rfl rfl rfl (bo g63) rfl rfl (.idxLX h65 enc_LI sl35 rfl rfl rfl) rfl ?_
            refine RunD.gt0 (x := .lst (List.map eI y64)) rfl rfl rfl (bo g63) rfl rfl (.loadR ty23 rfl rfl) rfl ?_
            refine RunD.gt0 (x := .v (.int .i64 (y64.length : Int))) rfl rfl rfl (bo g63) rfl rfl (.lenLm Try.underlying23 rfl rfl) rfl ?_
            refine RunD.gt0 (x := .v (.bool (decide ((y64.length : Int) = 2)))) rfl rfl rfl (bo g63) rfl rfl (.bin rfl rfl (fun w => b_eql w) rfl) rfl ?_
            refine RunD.ot0 (x := .v (.bool (decide ((y64.length : Int) = 2)))) rfl rfl rfl rfl (.pickT (bo g63) rfl) rfl ?_
            refine RunD.ot0 (x := .v (.bool (decide ((y64.length : Int) = 2)))) rfl rfl rfl rfl (.moveX rfl) rfl ?_
            refine RunD.cases (t := 60) (c := decide ((y64.length : Int) = 2)) rfl (fun g66 => ?_) (fun g66 => ?_)
            · replace H := ct H g66
              refine RunD.gt0 (x := .lst (List.map eLI r5)) rfl rfl rfl (bo g66) rfl rfl (.moveX rfl) rfl ?_
              obtain ⟨y67, h68, H⟩ := bs H
              refine RunD.gt0 (x := .rptr [.lst (List.map eI y67)]) rfl rfl rfl (bo g66) rfl rfl (.idxLX h68 enc_LI sl35 rfl rfl rfl) rfl ?_
              refine RunD.gt0 (x := .lst (List.map eI y67)) rfl rfl rfl (bo g66) rfl rfl (.loadR ty23 rfl rfl) rfl ?_
              obtain ⟨y69, h70, H⟩ := bs H
              refine RunD.gt0 (x := .rptr [.v (.int .i64 y69)]) rfl rfl rfl (bo g66) rfl rfl (.idxLX h70 enc_I sl23 rfl rfl rfl) rfl ?_
              refine RunD.gt0 (x := .v (.int .i64 y69)) rfl rfl rfl (bo g66) rfl rfl (.loadR ty3 rfl rfl) rfl ?_
              refine RunD.gt0 (x := .v (.bool (decide (y69 = 4)))) rfl rfl rfl (bo g66) rfl rfl (.bin rfl rfl (fun w => b_eql w) rfl) rfl ?_
              refine RunD.ot0 (x := .v (.bool (decide (y69 = 4)))) rfl rfl rfl rfl (.pickT (bo g66) rfl) rfl ?_
              refine RunD.ot0 (x := .v (.bool (decide (y69 = 4)))) rfl rfl rfl rfl (.moveX rfl) rfl ?_
              refine RunD.cases (t := 68) (c := decide (y69 = 4)) rfl (fun g71 => ?_) (fun g71 => ?_)
              · replace H := ct H g71
                refine RunD.gt0 (x := .v (.bool r7.2)) rfl rfl rfl (bo g71) rfl rfl (.moveX rfl) rfl ?_
                refine RunD.ot0 (x := .v (.bool r7.2)) rfl rfl rfl rfl (.pickT (bo g71) rfl) rfl ?_
                refine RunD.ot0 (x := .v (.bool r7.2)) rfl rfl rfl rfl (.moveX rfl) rfl ?_
                refine RunD.cases (t := 71) (c := r7.2) rfl (fun g72 => ?_) (fun g72 => ?_)
                · replace H := ct H g72
                  refine RunD.gt0 (x := .lst (List.map eI r7.1)) rfl rfl rfl (bo g72) rfl rfl (.moveX rfl) rfl ?_
                  refine RunD.gt0 (x := .v (.int .i64 (r7.1.length : Int))) rfl rfl rfl (bo g72) rfl rfl (.lenLm Try.underlying23 rfl rfl) rfl ?_
                  refine RunD.gt0 (x := .v (.bool (decide ((r7.1.length : Int) = 2)))) rfl rfl rfl (bo g72) rfl rfl (.bin rfl rfl (fun w => b_eql w) rfl) rfl ?_
                  refine RunD.ot0 (x := .v (.bool (decide ((r7.1.length : Int) = 2)))) rfl rfl rfl rfl (.pickT (bo g72) rfl) rfl ?_
                  refine RunD.ot0 (x := .v (.bool (decide ((r7.1.length : Int) = 2)))) rfl rfl rfl rfl (.moveX rfl) rfl ?_
                  refine RunD.cases (t := 76) (c := decide ((r7.1.length : Int) = 2)) rfl (fun g73 => ?_) (fun g73 => ?_)
                  · replace H := ct H g73
                    refine RunD.gt0 (x := .lst (List.map eI r7.1)) rfl rfl rfl (bo g73) rfl rfl (.moveX rfl) rfl ?_
                    obtain ⟨y74, h75, H⟩ := bs H
                    refine RunD.gt0 (x := .rptr [.v (.int .i64 y74)]) rfl rfl rfl (bo g73) rfl rfl (.idxLX h75 enc_I sl23 rfl rfl rfl) rfl ?_
                    refine RunD.gt0 (x := .v (.int .i64 y74)) rfl rfl rfl (bo g73) rfl rfl (.loadR ty3 rfl rfl) rfl ?_
                    refine RunD.gt0 (x := .v (.bool (decide (y74 = 3)))) rfl rfl rfl (bo g73) rfl rfl (.bin rfl rfl (fun w => b_eql w) rfl) rfl ?_
                    refine RunD.ot0 (x := .v (.bool (decide (y74 = 3)))) rfl rfl rfl rfl (.pickT (bo g73) rfl) rfl ?_
                    refine RunD.ot0 (x := .v (.bool (decide (y74 = 3)))) rfl rfl rfl rfl (.moveX rfl) rfl ?_
                    refine RunD.cases (t := 82) (c := decide (y74 = 3)) rfl (fun g76 => ?_) (fun g76 => ?_)
                    · replace H := ct H g76
                      refine RunD.gt0 (x := .v (.bool r9.2)) rfl rfl rfl (bo g76) rfl rfl (.moveX rfl) rfl ?_
                      refine RunD.gt0 (x := .v (.bool (!r9.2))) rfl rfl rfl (bo g76) rfl rfl (.un rfl (fun w => u_not w) rfl) rfl ?_
                      refine RunD.ot0 (x := .v (.bool (!r9.2))) rfl rfl rfl rfl (.pickT (bo g76) rfl) rfl ?_
                      refine RunD.ot0 (x := .v (.bool (!r9.2))) rfl rfl rfl rfl (.moveX rfl) rfl ?_
                      refine RunD.cases (t := 86) (c := !r9.2) rfl (fun g77 => ?_) (fun g77 => ?_)
                      · replace H := ct H g77
                        refine RunD.gt0 (x := .agg [.lst (List.map eSeat [Seat.mk 0 0 0 0, Seat.mk 0 10 0 0, Seat.mk 0 21 0 0, Seat.mk 0 31 0 0, Seat.mk 1 35 0 0]), .v (.int .i64 10), .v (.int .i64 0), .v (.slice none 0 0), .v (.slice none 0 0)]) rfl rfl rfl (bo g77) rfl rfl (.loadP ty26 rfl rfl rfl) rfl ?_
                        refine RunD.gt0 (x := .lst (List.map eB [true, true, true, true, true])) rfl rfl rfl (bo g77) rfl rfl (.moveX rfl) rfl ?_
                        obtain ⟨r78, h79, H⟩ := bs H
                        refine RunD.gt0 (x := .v (.int .i64 r78)) rfl rfl rfl (bo g77) rfl rfl (.callp (run_Long_pc false k (Venue.mk [Seat.mk 0 0 0 0, Seat.mk 0 10 0 0, Seat.mk 0 21 0 0, Seat.mk 0 31 0 0, Seat.mk 1 35 0 0] 10 0 [] []) [true, true, true, true, true] 0 r78 h79) rfl ⟨(.agg' ⟨.lst, .v, .v, .nil, .nil, trivial⟩), (.one .lst), (.one .v), trivial⟩ rfl rfl rfl) rfl ?_
                        refine RunD.gt0 (x := .v (.bool (decide (r78 = 2)))) rfl rfl rfl (bo g77) rfl rfl (.bin rfl rfl (fun w => b_eql w) rfl) rfl ?_
                        refine RunD.ot0 (x := .v (.bool (decide (r78 = 2)))) rfl rfl rfl rfl (.pickT (bo g77) rfl) rfl ?_
                        refine RunD.ot0 (x := .v (.bool (decide (r78 = 2)))) rfl rfl rfl rfl (.moveX rfl) rfl ?_
                        refine RunD.cases (t := 92) (c := decide (r78 = 2)) rfl (fun g80 => ?_) (fun g80 => ?_)
                        · replace H := ct H g80
                          refine RunD.gt0 (x := .agg [.lst (List.map eSeat [Seat.mk 0 0 0 0, Seat.mk 0 10 0 0, Seat.mk 0 21 0 0, Seat.mk 0 31 0 0, Seat.mk 1 35 0 0]), .v (.int .i64 10), .v (.int .i64 0), .v (.slice none 0 0), .v (.slice none 0 0)]) rfl rfl rfl (bo g80) rfl rfl (.loadP ty26 rfl rfl rfl) rfl ?_
                          refine RunD.gt0 (x := .lst (List.map eB [true, true, true, true, true])) rfl rfl rfl (bo g80) rfl rfl (.moveX rfl) rfl ?_
                          obtain ⟨y81, h82, H⟩ := bs H
                          refine RunD.gt0 (x := .lst (List.map eB y81)) rfl rfl rfl (bo g80) rfl rfl (.sliceLm sl43 rfl enc_B rfl ⟨_, rfl⟩ rfl h82) rfl ?_
                          obtain ⟨r83, h84, H⟩ := bs H
                          refine RunD.gt0 (x := .v (.int .i64 r83)) rfl rfl rfl (bo g80) rfl rfl (.callp (run_Long_pc false k (Venue.mk [Seat.mk 0 0 0 0, Seat.mk 0 10 0 0, Seat.mk 0 21 0 0, Seat.mk 0 31 0 0, Seat.mk 1 35 0 0] 10 0 [] []) y81 0 r83 h84) rfl ⟨(.agg' ⟨.lst, .v, .v, .nil, .nil, trivial⟩), (.one .lst), (.one .v), trivial⟩ rfl rfl rfl) rfl ?_
                          refine RunD.gt0 (x := .v (.bool (decide (r83 = 1)))) rfl rfl rfl (bo g80) rfl rfl (.bin rfl rfl (fun w => b_eql w) rfl) rfl ?_
                          refine RunD.ot0 (x := .v (.bool (decide (r83 = 1)))) rfl rfl rfl rfl (.pickT (bo g80) rfl) rfl ?_
                          refine RunD.ot0 (x := .v (.bool (decide (r83 = 1)))) rfl rfl rfl rfl (.moveX rfl) rfl ?_
                          refine RunD.cases (t := 99) (c := decide (r83 = 1)) rfl (fun g85 => ?_) (fun g85 => ?_)
                          · replace H := ct H g85
                            refine RunD.gt0 (x := .agg [.lst (List.map eSeat [Seat.mk 0 0 0 0, Seat.mk 0 10 0 0, Seat.mk 0 21 0 0, Seat.mk 0 31 0 0, Seat.mk 1 35 0 0]), .v (.int .i64 10), .v (.int .i64 0), .v (.slice none 0 0), .v (.slice none 0 0)]) rfl rfl rfl (bo g85) rfl rfl (.loadP ty26 rfl rfl rfl) rfl ?_
                            obtain ⟨r86, h87, H⟩ := bs H
                            refine RunD.gt0 (x := .v (.int .i64 r86)) rfl rfl rfl (bo g85) rfl rfl (.callp (run_Long_pc false k (Venue.mk [Seat.mk 0 0 0 0, Seat.mk 0 10 0 0, Seat.mk 0 21 0 0, Seat.mk 0 31 0 0, Seat.mk 1 35 0 0] 10 0 [] []) [] 0 r86 h87) rfl ⟨(.agg' ⟨.lst, .v, .v, .nil, .nil, trivial⟩), (.one .nil), (.one .v), trivial⟩ rfl rfl rfl) rfl ?_
                            refine RunD.gt0 (x := .v (.bool (decide (r86 = 0)))) rfl rfl rfl (bo g85) rfl rfl (.bin rfl rfl (fun w => b_eql w) rfl) rfl ?_
                            refine RunD.ot0 (x := .v (.bool (decide (r86 = 0)))) rfl rfl rfl rfl (.pickT (bo g85) rfl) rfl ?_
                            refine RunD.ot0 (x := .v (.bool (decide (r86 = 0)))) rfl rfl rfl rfl (.moveX rfl) rfl ?_
                            refine RunD.cases (t := 104) (c := decide (r86 = 0)) rfl (fun g88 => ?_) (fun g88 => ?_)
                            · replace H := ct H g88
                              refine RunD.gt0 (x := .agg [.v (.slice none 0 0), .v (.int .i64 0), .v (.int .i64 0), .v (.slice none 0 0), .v (.slice none 0 0)]) rfl rfl rfl (bo g88) rfl rfl (.bu bu26 rfl) rfl ?_
                              refine RunD.gt0 (x := .lst (List.map eB [true, true, true, true, true])) rfl rfl rfl (bo g88) rfl rfl (.moveX rfl) rfl ?_
                              obtain ⟨r89, h90, H⟩ := bs H
                              refine RunD.gt0 (x := .lst (List.map eLI r89)) rfl rfl rfl (bo g88) rfl rfl (.callp (PC.frozen (run_Runs_pc k (Venue.mk [] 0 0 [] []) [true, true, true, true, true] r89 h90)) rfl ⟨(.agg ⟨(.inr ⟨rfl, rfl⟩), (.inl ⟨rfl, rfl⟩), (.inl ⟨rfl, rfl⟩), (.inr ⟨rfl, rfl⟩), (.inr ⟨rfl, rfl⟩), trivial⟩), (.same rfl), trivial⟩ rfl rfl rfl) rfl ?_
                              refine RunD.gt0 (x := .v (.int .i64 (r89.length : Int))) rfl rfl rfl (bo g88) rfl rfl (.lenLm Try.underlying35 rfl rfl) rfl ?_
                              refine RunD.gt0 (x := .v (.bool (decide ((r89.length : Int) = 0)))) rfl rfl rfl (bo g88) rfl rfl (.bin rfl rfl (fun w => b_eql w) rfl) rfl ?_
                              refine RunD.ot0 (x := .v (.bool (decide ((r89.length : Int) = 0)))) rfl rfl rfl rfl (.pickT (bo g88) rfl) rfl ?_
                              refine RunD.ot0 (x := .v (.bool (decide ((r89.length : Int) = 0)))) rfl rfl rfl rfl (.assignX rfl) rfl ?_
                              refine RunD.nil (by kernel_rfl) ⟨rfl, rfl, ?_⟩
                              obtain rfl := si H
                              refine T.sub (sub_to (st' := ⟨[(0, .v (.bool (decide ((r89.length : Int) = 0))))], [], 8, []⟩) [] (by decide) rfl rfl (⟨⟨_, rfl, .one .v⟩, trivial⟩) (trivial)) ?_
                              refine T.ret ?_
                              exact RetOk.same [.v (.bool (decide ((r89.length : Int) = 0)))] ⟨rfl, trivial⟩ rfl rfl rfl
                            · replace H := cf H g88
                              refine RunD.xn rfl rfl rfl (bo g88) rfl rfl ?_
                              refine RunD.xn rfl rfl rfl (bo g88) rfl rfl ?_
                              refine RunD.xn rfl rfl rfl (bo g88) rfl rfl ?_
                              refine RunD.xn rfl rfl rfl (bo g88) rfl rfl ?_
                              refine RunD.xn rfl rfl rfl (bo g88) rfl rfl ?_
                              refine RunD.ot0 (x := .v (.bool false)) rfl rfl rfl rfl (.pickF (bo g88) rfl) rfl ?_
                              refine RunD.ot0 (x := .v (.bool false)) rfl rfl rfl rfl (.assignX rfl) rfl ?_
                              refine RunD.nil (by kernel_rfl) ⟨rfl, rfl, ?_⟩
                              obtain rfl := si H
                              refine T.sub (sub_to (st' := ⟨[(0, .v (.bool false))], [], 8, []⟩) [] (by decide) rfl rfl (⟨⟨_, rfl, .one .v⟩, trivial⟩) (trivial)) ?_
                              refine T.ret ?_
                              exact RetOk.same [.v (.bool false)] ⟨rfl, trivial⟩ rfl rfl rfl
                          · replace H := cf H g85
                            refine RunD.xn rfl rfl rfl (bo g85) rfl rfl ?_
                            refine RunD.xn rfl rfl rfl (bo g85) rfl rfl ?_
                            refine RunD.xn rfl rfl rfl (bo g85) rfl rfl ?_
                            refine RunD.ot0 (x := .v (.bool false)) rfl rfl rfl rfl (.pickF (bo g85) rfl) rfl ?_
                            refine RunD.ot0 (x := .v (.bool false)) rfl rfl rfl rfl (.moveX rfl) rfl ?_
                            refine RunD.xn rfl rfl rfl rfl rfl rfl ?_
                            refine RunD.xn rfl rfl rfl rfl rfl rfl ?_
                            refine RunD.xn rfl rfl rfl rfl rfl rfl ?_
                            refine RunD.xn rfl rfl rfl rfl rfl rfl ?_
                            refine RunD.xn rfl rfl rfl rfl rfl rfl ?_
                            refine RunD.ot0 (x := .v (.bool false)) rfl rfl rfl rfl (.pickF rfl rfl) rfl ?_
                            refine RunD.ot0 (x := .v (.bool false)) rfl rfl rfl rfl (.assignX rfl) rfl ?_
                            refine RunD.nil (by kernel_rfl) ⟨rfl, rfl, ?_⟩
                            obtain rfl := si H
                            refine T.sub (sub_to (st' := ⟨[(0, .v (.bool false))], [], 8, []⟩) [] (by decide) rfl rfl (⟨⟨_, rfl, .one .v⟩, trivial⟩) (trivial)) ?_
                            refine T.ret ?_
                            exact RetOk.same [.v (.bool false)] ⟨rfl, trivial⟩ rfl rfl rfl
                        · replace H := cf H g80
                          refine RunD.xn rfl rfl rfl (bo g80) rfl rfl ?_
                          refine RunD.xn rfl rfl rfl (bo g80) rfl rfl ?_
                          refine RunD.xn rfl rfl rfl (bo g80) rfl rfl ?_
                          refine RunD.xn rfl rfl rfl (bo g80) rfl rfl ?_
                          refine RunD.xn rfl rfl rfl (bo g80) rfl rfl ?_
                          refine RunD.ot0 (x := .v (.bool false)) rfl rfl rfl rfl (.pickF (bo g80) rfl) rfl ?_
                          refine RunD.ot0 (x := .v (.bool false)) rfl rfl rfl rfl (.moveX rfl) rfl ?_
                          refine RunD.xn rfl rfl rfl rfl rfl rfl ?_
                          refine RunD.xn rfl rfl rfl rfl rfl rfl ?_
                          refine RunD.xn rfl rfl rfl rfl rfl rfl ?_
                          refine RunD.ot0 (x := .v (.bool false)) rfl rfl rfl rfl (.pickF rfl rfl) rfl ?_
                          refine RunD.ot0 (x := .v (.bool false)) rfl rfl rfl rfl (.moveX rfl) rfl ?_
                          refine RunD.xn rfl rfl rfl rfl rfl rfl ?_
                          refine RunD.xn rfl rfl rfl rfl rfl rfl ?_
                          refine RunD.xn rfl rfl rfl rfl rfl rfl ?_
                          refine RunD.xn rfl rfl rfl rfl rfl rfl ?_
                          refine RunD.xn rfl rfl rfl rfl rfl rfl ?_
                          refine RunD.ot0 (x := .v (.bool false)) rfl rfl rfl rfl (.pickF rfl rfl) rfl ?_
                          refine RunD.ot0 (x := .v (.bool false)) rfl rfl rfl rfl (.assignX rfl) rfl ?_
                          refine RunD.nil (by kernel_rfl) ⟨rfl, rfl, ?_⟩
                          obtain rfl := si H
                          refine T.sub (sub_to (st' := ⟨[(0, .v (.bool false))], [], 8, []⟩) [] (by decide) rfl rfl (⟨⟨_, rfl, .one .v⟩, trivial⟩) (trivial)) ?_
                          refine T.ret ?_
                          exact RetOk.same [.v (.bool false)] ⟨rfl, trivial⟩ rfl rfl rfl
                      · replace H := cf H g77
                        refine RunD.xn rfl rfl rfl (bo g77) rfl rfl ?_
                        refine RunD.xn rfl rfl rfl (bo g77) rfl rfl ?_
                        refine RunD.xn rfl rfl rfl (bo g77) rfl rfl ?_
                        refine RunD.xn rfl rfl rfl (bo g77) rfl rfl ?_
                        refine RunD.ot0 (x := .v (.bool false)) rfl rfl rfl rfl (.pickF (bo g77) rfl) rfl ?_
                        refine RunD.ot0 (x := .v (.bool false)) rfl rfl rfl rfl (.moveX rfl) rfl ?_
                        refine RunD.xn rfl rfl rfl rfl rfl rfl ?_
                        refine RunD.xn rfl rfl rfl rfl rfl rfl ?_
                        refine RunD.xn rfl rfl rfl rfl rfl rfl ?_
                        refine RunD.xn rfl rfl rfl rfl rfl rfl ?_
                        refine RunD.xn rfl rfl rfl rfl rfl rfl ?_
                        refine RunD.ot0 (x := .v (.bool false)) rfl rfl rfl rfl (.pickF rfl rfl) rfl ?_
                        refine RunD.ot0 (x := .v (.bool false)) rfl rfl rfl rfl (.moveX rfl) rfl ?_
                        refine RunD.xn rfl rfl rfl rfl rfl rfl ?_
                        refine RunD.xn rfl rfl rfl rfl rfl rfl ?_
                        refine RunD.xn rfl rfl rfl rfl rfl rfl ?_
                        refine RunD.ot0 (x := .v (.bool false)) rfl rfl rfl rfl (.pickF rfl rfl) rfl ?_
                        refine RunD.ot0 (x := .v (.bool false)) rfl rfl rfl rfl (.moveX rfl) rfl ?_
                        refine RunD.xn rfl rfl rfl rfl rfl rfl ?_
                        refine RunD.xn rfl rfl rfl rfl rfl rfl ?_
                        refine RunD.xn rfl rfl rfl rfl rfl rfl ?_
                        refine RunD.xn rfl rfl rfl rfl rfl rfl ?_
                        refine RunD.xn rfl rfl rfl rfl rfl rfl ?_
                        refine RunD.ot0 (x := .v (.bool false)) rfl rfl rfl rfl (.pickF rfl rfl) rfl ?_
                        refine RunD.ot0 (x := .v (.bool false)) rfl rfl rfl rfl (.assignX rfl) rfl ?_
                        refine RunD.nil (by kernel_rfl) ⟨rfl, rfl, ?_⟩
                        obtain rfl := si H
                        refine T.sub (sub_to (st' := ⟨[(0, .v (.bool false))], [], 8, []⟩) [] (by decide) rfl rfl (⟨⟨_, rfl, .one .v⟩, trivial⟩) (trivial)) ?_
                        refine T.ret ?_
                        exact RetOk.same [.v (.bool false)] ⟨rfl, trivial⟩ rfl rfl rfl
                    · replace H := cf H g76
                      refine RunD.xn rfl rfl rfl (bo g76) rfl rfl ?_
                      refine RunD.xn rfl rfl rfl (bo g76) rfl rfl ?_
                      refine RunD.ot0 (x := .v (.bool false)) rfl rfl rfl rfl (.pickF (bo g76) rfl) rfl ?_
                      refine RunD.ot0 (x := .v (.bool false)) rfl rfl rfl rfl (.moveX rfl) rfl ?_
                      refine RunD.xn rfl rfl rfl rfl rfl rfl ?_
                      refine RunD.xn rfl rfl rfl rfl rfl rfl ?_
                      refine RunD.xn rfl rfl rfl rfl rfl rfl ?_
                      refine RunD.xn rfl rfl rfl rfl rfl rfl ?_
                      refine RunD.ot0 (x := .v (.bool false)) rfl rfl rfl rfl (.pickF rfl rfl) rfl ?_
                      refine RunD.ot0 (x := .v (.bool false)) rfl rfl rfl rfl (.moveX rfl) rfl ?_
                      refine RunD.xn rfl rfl rfl rfl rfl rfl ?_
                      refine RunD.xn rfl rfl rfl rfl rfl rfl ?_
                      refine RunD.xn rfl rfl rfl rfl rfl rfl ?_
                      refine RunD.xn rfl rfl rfl rfl rfl rfl ?_
                      refine RunD.xn rfl rfl rfl rfl rfl rfl ?_
                      refine RunD.ot0 (x := .v (.bool false)) rfl rfl rfl rfl (.pickF rfl rfl) rfl ?_
                      refine RunD.ot0 (x := .v (.bool false)) rfl rfl rfl rfl (.moveX rfl) rfl ?_
                      refine RunD.xn rfl rfl rfl rfl rfl rfl ?_
                      refine RunD.xn rfl rfl rfl rfl rfl rfl ?_
                      refine RunD.xn rfl rfl rfl rfl rfl rfl ?_
                      refine RunD.ot0 (x := .v (.bool false)) rfl rfl rfl rfl (.pickF rfl rfl) rfl ?_
                      refine RunD.ot0 (x := .v (.bool false)) rfl rfl rfl rfl (.moveX rfl) rfl ?_
                      refine RunD.xn rfl rfl rfl rfl rfl rfl ?_
                      refine RunD.xn rfl rfl rfl rfl rfl rfl ?_
                      refine RunD.xn rfl rfl rfl rfl rfl rfl ?_
                      refine RunD.xn rfl rfl rfl rfl rfl rfl ?_
                      refine RunD.xn rfl rfl rfl rfl rfl rfl ?_
                      refine RunD.ot0 (x := .v (.bool false)) rfl rfl rfl rfl (.pickF rfl rfl) rfl ?_
                      refine RunD.ot0 (x := .v (.bool false)) rfl rfl rfl rfl (.assignX rfl) rfl ?_
                      refine RunD.nil (by kernel_rfl) ⟨rfl, rfl, ?_⟩
                      obtain rfl := si H
                      refine T.sub (sub_to (st' := ⟨[(0, .v (.bool false))], [], 8, []⟩) [] (by decide) rfl rfl (⟨⟨_, rfl, .one .v⟩, trivial⟩) (trivial)) ?_
                      refine T.ret ?_
                      exact RetOk.same [.v (.bool false)] ⟨rfl, trivial⟩ rfl rfl rfl
                  · replace H := cf H g73
                    refine RunD.xn rfl rfl rfl (bo g73) rfl rfl ?_
                    refine RunD.xn rfl rfl rfl (bo g73) rfl rfl ?_
                    refine RunD.xn rfl rfl rfl (bo g73) rfl rfl ?_
                    refine RunD.xn rfl rfl rfl (bo g73) rfl rfl ?_
                    refine RunD.ot0 (x := .v (.bool false)) rfl rfl rfl rfl (.pickF (bo g73) rfl) rfl ?_
                    refine RunD.ot0 (x := .v (.bool false)) rfl rfl rfl rfl (.moveX rfl) rfl ?_
                    refine RunD.xn rfl rfl rfl rfl rfl rfl ?_
                    refine RunD.xn rfl rfl rfl rfl rfl rfl ?_
                    refine RunD.ot0 (x := .v (.bool false)) rfl rfl rfl rfl (.pickF rfl rfl) rfl ?_
                    refine RunD.ot0 (x := .v (.bool false)) rfl rfl rfl rfl (.moveX rfl) rfl ?_
                    refine RunD.xn rfl rfl rfl rfl rfl rfl ?_
                    refine RunD.xn rfl rfl rfl rfl rfl rfl ?_
                    refine RunD.xn rfl rfl rfl rfl rfl rfl ?_
                    refine RunD.xn rfl rfl rfl rfl rfl rfl ?_
                    refine RunD.ot0 (x := .v (.bool false)) rfl rfl rfl rfl (.pickF rfl rfl) rfl ?_
                    refine RunD.ot0 (x := .v (.bool false)) rfl rfl rfl rfl (.moveX rfl) rfl ?_
                    refine RunD.xn rfl rfl rfl rfl rfl rfl ?_
                    refine RunD.xn rfl rfl rfl rfl rfl rfl ?_
                    refine RunD.xn rfl rfl rfl rfl rfl rfl ?_
                    refine RunD.xn rfl rfl rfl rfl rfl rfl ?_
                    refine RunD.xn rfl rfl rfl rfl rfl rfl ?_
                    refine RunD.ot0 (x := .v (.bool false)) rfl rfl rfl rfl (.pickF rfl rfl) rfl ?_
                    refine RunD.ot0 (x := .v (.bool false)) rfl rfl rfl rfl (.moveX rfl) rfl ?_
                    refine RunD.xn rfl rfl rfl rfl rfl rfl ?_
                    refine RunD.xn rfl rfl rfl rfl rfl rfl ?_
                    refine RunD.xn rfl rfl rfl rfl rfl rfl ?_
                    refine RunD.ot0 (x := .v (.bool false)) rfl rfl rfl rfl (.pickF rfl rfl) rfl ?_
                    refine RunD.ot0 (x := .v (.bool false)) rfl rfl rfl rfl (.moveX rfl) rfl ?_
                    refine RunD.xn rfl rfl rfl rfl rfl rfl ?_
                    refine RunD.xn rfl rfl rfl rfl rfl rfl ?_
                    refine RunD.xn rfl rfl rfl rfl rfl rfl ?_
                    refine RunD.xn rfl rfl rfl rfl rfl rfl ?_
                    refine RunD.xn rfl rfl rfl rfl rfl rfl ?_
                    refine RunD.ot0 (x := .v (.bool false)) rfl rfl rfl rfl (.pickF rfl rfl) rfl ?_
                    refine RunD.ot0 (x := .v (.bool false)) rfl rfl rfl rfl (.assignX rfl) rfl ?_
                    refine RunD.nil (by kernel_rfl) ⟨rfl, rfl, ?_⟩
                    obtain rfl := si H
                    refine T.sub (sub_to (st' := ⟨[(0, .v (.bool false))], [], 8, []⟩) [] (by decide) rfl rfl (⟨⟨_, rfl, .one .v⟩, trivial⟩) (trivial)) ?_
                    refine T.ret ?_
                    exact RetOk.same [.v (.bool false)] ⟨rfl, trivial⟩ rfl rfl rfl
                · replace H := cf H g72
                  refine RunD.xn rfl rfl rfl (bo g72) rfl rfl ?_
                  refine RunD.xn rfl rfl rfl (bo g72) rfl rfl ?_
                  refine RunD.xn rfl rfl rfl (bo g72) rfl rfl ?_
                  refine RunD.ot0 (x := .v (.bool false)) rfl rfl rfl rfl (.pickF (bo g72) rfl) rfl ?_
                  refine RunD.ot0 (x := .v (.bool false)) rfl rfl rfl rfl (.moveX rfl) rfl ?_
                  refine RunD.xn rfl rfl rfl rfl rfl rfl ?_
                  refine RunD.xn rfl rfl rfl rfl rfl rfl ?_
                  refine RunD.xn rfl rfl rfl rfl rfl rfl ?_
                  refine RunD.xn rfl rfl rfl rfl rfl rfl ?_
                  refine RunD.ot0 (x := .v (.bool false)) rfl rfl rfl rfl (.pickF rfl rfl) rfl ?_
                  refine RunD.ot0 (x := .v (.bool false)) rfl rfl rfl rfl (.moveX rfl) rfl ?_
                  refine RunD.xn rfl rfl rfl rfl rfl rfl ?_
                  refine RunD.xn rfl rfl rfl rfl rfl rfl ?_
                  refine RunD.ot0 (x := .v (.bool false)) rfl rfl rfl rfl (.pickF rfl rfl) rfl ?_
                  refine RunD.ot0 (x := .v (.bool false)) rfl rfl rfl rfl (.moveX rfl) rfl ?_
                  refine RunD.xn rfl rfl rfl rfl rfl rfl ?_
                  refine RunD.xn rfl rfl rfl rfl rfl rfl ?_
                  refine RunD.xn rfl rfl rfl rfl rfl rfl ?_
                  refine RunD.xn rfl rfl rfl rfl rfl rfl ?_
                  refine RunD.ot0 (x := .v (.bool false)) rfl rfl rfl rfl (.pickF rfl rfl) rfl ?_
                  refine RunD.ot0 (x := .v (.bool false)) rfl rfl rfl rfl (.moveX rfl) rfl ?_
                  refine RunD.xn rfl rfl rfl rfl rfl rfl ?_
                  refine RunD.xn rfl rfl rfl rfl rfl rfl ?_
                  refine RunD.xn rfl rfl rfl rfl rfl rfl ?_
                  refine RunD.xn rfl rfl rfl rfl rfl rfl ?_
                  refine RunD.xn rfl rfl rfl rfl rfl rfl ?_
                  refine RunD.ot0 (x := .v (.bool false)) rfl rfl rfl rfl (.pickF rfl rfl) rfl ?_
                  refine RunD.ot0 (x := .v (.bool false)) rfl rfl rfl rfl (.moveX rfl) rfl ?_
                  refine RunD.xn rfl rfl rfl rfl rfl rfl ?_
                  refine RunD.xn rfl rfl rfl rfl rfl rfl ?_
                  refine RunD.xn rfl rfl rfl rfl rfl rfl ?_
                  refine RunD.ot0 (x := .v (.bool false)) rfl rfl rfl rfl (.pickF rfl rfl) rfl ?_
                  refine RunD.ot0 (x := .v (.bool false)) rfl rfl rfl rfl (.moveX rfl) rfl ?_
                  refine RunD.xn rfl rfl rfl rfl rfl rfl ?_
                  refine RunD.xn rfl rfl rfl rfl rfl rfl ?_
                  refine RunD.xn rfl rfl rfl rfl rfl rfl ?_
                  refine RunD.xn rfl rfl rfl rfl rfl rfl ?_
                  refine RunD.xn rfl rfl rfl rfl rfl rfl ?_
                  refine RunD.ot0 (x := .v (.bool false)) rfl rfl rfl rfl (.pickF rfl rfl) rfl ?_
                  refine RunD.ot0 (x := .v (.bool false)) rfl rfl rfl rfl (.assignX rfl) rfl ?_
                  refine RunD.nil (by kernel_rfl) ⟨rfl, rfl, ?_⟩
                  obtain rfl := si H
                  refine T.sub (sub_to (st' := ⟨[(0, .v (.bool false))], [], 8, []⟩) [] (by decide) rfl rfl (⟨⟨_, rfl, .one .v⟩, trivial⟩) (trivial)) ?_
                  refine T.ret ?_
                  exact RetOk.same [.v (.bool false)] ⟨rfl, trivial⟩ rfl rfl rfl
              · replace H := cf H g71
                refine RunD.xn rfl rfl rfl (bo g71) rfl rfl ?_
                refine RunD.ot0 (x := .v (.bool false)) rfl rfl rfl rfl (.pickF (bo g71) rfl) rfl ?_
                refine RunD.ot0 (x := .v (.bool false)) rfl rfl rfl rfl (.moveX rfl) rfl ?_
                refine RunD.xn rfl rfl rfl rfl rfl rfl ?_
                refine RunD.xn rfl rfl rfl rfl rfl rfl ?_
                refine RunD.xn rfl rfl rfl rfl rfl rfl ?_
                refine RunD.ot0 (x := .v (.bool false)) rfl rfl rfl rfl (.pickF rfl rfl) rfl ?_
                refine RunD.ot0 (x := .v (.bool false)) rfl rfl rfl rfl (.moveX rfl) rfl ?_
                refine RunD.xn rfl rfl rfl rfl rfl rfl ?_
                refine RunD.xn rfl rfl rfl rfl rfl rfl ?_
                refine RunD.xn rfl rfl rfl rfl rfl rfl ?_
                refine RunD.xn rfl rfl rfl rfl rfl rfl ?_
                refine RunD.ot0 (x := .v (.bool false)) rfl rfl rfl rfl (.pickF rfl rfl) rfl ?_
                refine RunD.ot0 (x := .v (.bool false)) rfl rfl rfl rfl (.moveX rfl) rfl ?_
                refine RunD.xn rfl rfl rfl rfl rfl rfl ?_
                refine RunD.xn rfl rfl rfl rfl rfl rfl ?_
                refine RunD.ot0 (x := .v (.bool false)) rfl rfl rfl rfl (.pickF rfl rfl) rfl ?_
                refine RunD.ot0 (x := .v (.bool false)) rfl rfl rfl rfl (.moveX rfl) rfl ?_
                refine RunD.xn rfl rfl rfl rfl rfl rfl ?_
                refine RunD.xn rfl rfl rfl rfl rfl rfl ?_
                refine RunD.xn rfl rfl rfl rfl rfl rfl ?_
                refine RunD.xn rfl rfl rfl rfl rfl rfl ?_
                refine RunD.ot0 (x := .v (.bool false)) rfl rfl rfl rfl (.pickF rfl rfl) rfl ?_
                refine RunD.ot0 (x := .v (.bool false)) rfl rfl rfl rfl (.moveX rfl) rfl ?_
                refine RunD.xn rfl rfl rfl rfl rfl rfl ?_
                refine RunD.xn rfl rfl rfl rfl rfl rfl ?_
                refine RunD.xn rfl rfl rfl rfl rfl rfl ?_
                refine RunD.xn rfl rfl rfl rfl rfl rfl ?_
                refine RunD.xn rfl rfl rfl rfl rfl rfl ?_
                refine RunD.ot0 (x := .v (.bool false)) rfl rfl rfl rfl (.pickF rfl rfl) rfl ?_
                refine RunD.ot0 (x := .v (.bool false)) rfl rfl rfl rfl (.moveX rfl) rfl ?_
                refine RunD.xn rfl rfl rfl rfl rfl rfl ?_
                refine RunD.xn rfl rfl rfl rfl rfl rfl ?_
                refine RunD.xn rfl rfl rfl rfl rfl rfl ?_
                refine RunD.ot0 (x := .v (.bool false)) rfl rfl rfl rfl (.pickF rfl rfl) rfl ?_
                refine RunD.ot0 (x := .v (.bool false)) rfl rfl rfl rfl (.moveX rfl) rfl ?_
                refine RunD.xn rfl rfl rfl rfl rfl rfl ?_
                refine RunD.xn rfl rfl rfl rfl rfl rfl ?_
                refine RunD.xn rfl rfl rfl rfl rfl rfl ?_
                refine RunD.xn rfl rfl rfl rfl rfl rfl ?_
                refine RunD.xn rfl rfl rfl rfl rfl rfl ?_
                refine RunD.ot0 (x := .v (.bool false)) rfl rfl rfl rfl (.pickF rfl rfl) rfl ?_
                refine RunD.ot0 (x := .v (.bool false)) rfl rfl rfl rfl (.assignX rfl) rfl ?_
                refine RunD.nil (by kernel_rfl) ⟨rfl, rfl, ?_⟩
                obtain rfl := si H
                refine T.sub (sub_to (st' := ⟨[(0, .v (.bool false))], [], 8, []⟩) [] (by decide) rfl rfl (⟨⟨_, rfl, .one .v⟩, trivial⟩) (trivial)) ?_
                refine T.ret ?_
                exact RetOk.same [.v (.bool false)] ⟨rfl, trivial⟩ rfl rfl rfl
            · replace H := cf H g66
              refine RunD.xn rfl rfl rfl (bo g66) rfl rfl ?_
              refine RunD.xn rfl rfl rfl (bo g66) rfl rfl ?_
              refine RunD.xn rfl rfl rfl (bo g66) rfl rfl ?_
              refine RunD.xn rfl rfl rfl (bo g66) rfl rfl ?_
              refine RunD.xn rfl rfl rfl (bo g66) rfl rfl ?_
              refine RunD.xn rfl rfl rfl (bo g66) rfl rfl ?_
              refine RunD.ot0 (x := .v (.bool false)) rfl rfl rfl rfl (.pickF (bo g66) rfl) rfl ?_
              refine RunD.ot0 (x := .v (.bool false)) rfl rfl rfl rfl (.moveX rfl) rfl ?_
              refine RunD.xn rfl rfl rfl rfl rfl rfl ?_
              refine RunD.ot0 (x := .v (.bool false)) rfl rfl rfl rfl (.pickF rfl rfl) rfl ?_
              refine RunD.ot0 (x := .v (.bool false)) rfl rfl rfl rfl (.moveX rfl) rfl ?_
              refine RunD.xn rfl rfl rfl rfl rfl rfl ?_
              refine RunD.xn rfl rfl rfl rfl rfl rfl ?_
              refine RunD.xn rfl rfl rfl rfl rfl rfl ?_
              refine RunD.ot0 (x := .v (.bool false)) rfl rfl rfl rfl (.pickF rfl rfl) rfl ?_
              refine RunD.ot0 (x := .v (.bool false)) rfl rfl rfl rfl (.moveX rfl) rfl ?_
              refine RunD.xn rfl rfl rfl rfl rfl rfl ?_
              refine RunD.xn rfl rfl rfl rfl rfl rfl ?_
              refine RunD.xn rfl rfl rfl rfl rfl rfl ?_
              refine RunD.xn rfl rfl rfl rfl rfl rfl ?_
              refine RunD.ot0 (x := .v (.bool false)) rfl rfl rfl rfl (.pickF rfl rfl) rfl ?_
              refine RunD.ot0 (x := .v (.bool false)) rfl rfl rfl rfl (.moveX rfl) rfl ?_
              refine RunD.xn rfl rfl rfl rfl rfl rfl ?_
              refine RunD.xn rfl rfl rfl rfl rfl rfl ?_
              refine RunD.ot0 (x := .v (.bool false)) rfl rfl rfl rfl (.pickF rfl rfl) rfl ?_
              refine RunD.ot0 (x := .v (.bool false)) rfl rfl rfl rfl (.moveX rfl) rfl ?_
              refine RunD.xn rfl rfl rfl rfl rfl rfl ?_
              refine RunD.xn rfl rfl rfl rfl rfl rfl ?_
              refine RunD.xn rfl rfl rfl rfl rfl rfl ?_
              refine RunD.xn rfl rfl rfl rfl rfl rfl ?_
              refine RunD.ot0 (x := .v (.bool false)) rfl rfl rfl rfl (.pickF rfl rfl) rfl ?_
              refine RunD.ot0 (x := .v (.bool false)) rfl rfl rfl rfl (.moveX rfl) rfl ?_
              refine RunD.xn rfl rfl rfl rfl rfl rfl ?_
              refine RunD.xn rfl rfl rfl rfl rfl rfl ?_
              refine RunD.xn rfl rfl rfl rfl rfl rfl ?_
              refine RunD.xn rfl rfl rfl rfl rfl rfl ?_
              refine RunD.xn rfl rfl rfl rfl rfl rfl ?_
              refine RunD.ot0 (x := .v (.bool false)) rfl rfl rfl rfl (.pickF rfl rfl) rfl ?_
              refine RunD.ot0 (x := .v (.bool false)) rfl rfl rfl rfl (.moveX rfl) rfl ?_
              refine RunD.xn rfl rfl rfl rfl rfl rfl ?_
              refine RunD.xn rfl rfl rfl rfl rfl rfl ?_
              refine RunD.xn rfl rfl rfl rfl rfl rfl ?_
              refine RunD.ot0 (x := .v (.bool false)) rfl rfl rfl rfl (.pickF rfl rfl) rfl ?_
              refine RunD.ot0 (x := .v (.bool false)) rfl rfl rfl rfl (.moveX rfl) rfl ?_
              refine RunD.xn rfl rfl rfl rfl rfl rfl ?_
              refine RunD.xn rfl rfl rfl rfl rfl rfl ?_
              refine RunD.xn rfl rfl rfl rfl rfl rfl ?_
              refine RunD.xn rfl rfl rfl rfl rfl rfl ?_
              refine RunD.xn rfl rfl rfl rfl rfl rfl ?_
              refine RunD.ot0 (x := .v (.bool false)) rfl rfl rfl rfl (.pickF rfl rfl) rfl ?_
              refine RunD.ot0 (x := .v (.bool false)) rfl rfl rfl rfl (.assignX rfl) rfl ?_
              refine RunD.nil (by kernel_rfl) ⟨rfl, rfl, ?_⟩
              obtain rfl := si H
              refine T.sub (sub_to (st' := ⟨[(0, .v (.bool false))], [], 8, []⟩) [] (by decide) rfl rfl (⟨⟨_, rfl, .one .v⟩, trivial⟩) (trivial)) ?_
              refine T.ret ?_
              exact RetOk.same [.v (.bool false)] ⟨rfl, trivial⟩ rfl rfl rfl
          · replace H := cf H g63
            refine RunD.xn rfl rfl rfl (bo g63) rfl rfl ?_
            refine RunD.xn rfl rfl rfl (bo g63) rfl rfl ?_
            refine RunD.xn rfl rfl rfl (bo g63) rfl rfl ?_
            refine RunD.xn rfl rfl rfl (bo g63) rfl rfl ?_
            refine RunD.xn rfl rfl rfl (bo g63) rfl rfl ?_
            refine RunD.ot0 (x := .v (.bool false)) rfl rfl rfl rfl (.pickF (bo g63) rfl) rfl ?_
            refine RunD.ot0 (x := .v (.bool false)) rfl rfl rfl rfl (.moveX rfl) rfl ?_
            refine RunD.xn rfl rfl rfl rfl rfl rfl ?_
            refine RunD.xn rfl rfl rfl rfl rfl rfl ?_
            refine RunD.xn rfl rfl rfl rfl rfl rfl ?_
            refine RunD.xn rfl rfl rfl rfl rfl rfl ?_
            refine RunD.xn rfl rfl rfl rfl rfl rfl ?_
            refine RunD.xn rfl rfl rfl rfl rfl rfl ?_
            refine RunD.ot0 (x := .v (.bool false)) rfl rfl rfl rfl (.pickF rfl rfl) rfl ?_
            refine RunD.ot0 (x := .v (.bool false)) rfl rfl rfl rfl (.moveX rfl) rfl ?_
            refine RunD.xn rfl rfl rfl rfl rfl rfl ?_
            refine RunD.ot0 (x := .v (.bool false)) rfl rfl rfl rfl (.pickF rfl rfl) rfl ?_
            refine RunD.ot0 (x := .v (.bool false)) rfl rfl rfl rfl (.moveX rfl) rfl ?_
            refine RunD.xn rfl rfl rfl rfl rfl rfl ?_
            refine RunD.xn rfl rfl rfl rfl rfl rfl ?_
            refine RunD.xn rfl rfl rfl rfl rfl rfl ?_
            refine RunD.ot0 (x := .v (.bool false)) rfl rfl rfl rfl (.pickF rfl rfl) rfl ?_
            refine RunD.ot0 (x := .v (.bool false)) rfl rfl rfl rfl (.moveX rfl) rfl ?_
            refine RunD.xn rfl rfl rfl rfl rfl rfl ?_
            refine RunD.xn rfl rfl rfl rfl rfl rfl ?_
            refine RunD.xn rfl rfl rfl rfl rfl rfl ?_
            refine RunD.xn rfl rfl rfl rfl rfl rfl ?_
            refine RunD.ot0 (x := .v (.bool false)) rfl rfl rfl rfl (.pickF rfl rfl) rfl ?_
            refine RunD.ot0 (x := .v (.bool false)) rfl rfl rfl rfl (.moveX rfl) rfl ?_
            refine RunD.xn rfl rfl rfl rfl rfl rfl ?_
            refine RunD.xn rfl rfl rfl rfl rfl rfl ?_
            refine RunD.ot0 (x := .v (.bool false)) rfl rfl rfl rfl (.pickF rfl rfl) rfl ?_
            refine RunD.ot0 (x := .v (.bool false)) rfl rfl rfl rfl (.moveX rfl) rfl ?_
            refine RunD.xn rfl rfl rfl rfl rfl rfl ?_
            refine RunD.xn rfl rfl rfl rfl rfl rfl ?_
            refine RunD.xn rfl rfl rfl rfl rfl rfl ?_
            refine RunD.xn rfl rfl rfl rfl rfl rfl ?_
            refine RunD.ot0 (x := .v (.bool false)) rfl rfl rfl rfl (.pickF rfl rfl) rfl ?_
            refine RunD.ot0 (x := .v (.bool false)) rfl rfl rfl rfl (.moveX rfl) rfl ?_
            refine RunD.xn rfl rfl rfl rfl rfl rfl ?_
            refine RunD.xn rfl rfl rfl rfl rfl rfl ?_
            refine RunD.xn rfl rfl rfl rfl rfl rfl ?_
            refine RunD.xn rfl rfl rfl rfl rfl rfl ?_
            refine RunD.xn rfl rfl rfl rfl rfl rfl ?_
            refine RunD.ot0 (x := .v (.bool false)) rfl rfl rfl rfl (.pickF rfl rfl) rfl ?_
            refine RunD.ot0 (x := .v (.bool false)) rfl rfl rfl rfl (.moveX rfl) rfl ?_
            refine RunD.xn rfl rfl rfl rfl rfl rfl ?_
            refine RunD.xn rfl rfl rfl rfl rfl rfl ?_
            refine RunD.xn rfl rfl rfl rfl rfl rfl ?_
            refine RunD.ot0 (x := .v (.bool false)) rfl rfl rfl rfl (.pickF rfl rfl) rfl ?_
            refine RunD.ot0 (x := .v (.bool false)) rfl rfl rfl rfl (.moveX rfl) rfl ?_
            refine RunD.xn rfl rfl rfl rfl rfl rfl ?_
            refine RunD.xn rfl rfl rfl rfl rfl rfl ?_
            refine RunD.xn rfl rfl rfl rfl rfl rfl ?_
            refine RunD.xn rfl rfl rfl rfl rfl rfl ?_
            refine RunD.xn rfl rfl rfl rfl rfl rfl ?_
            refine RunD.ot0 (x := .v (.bool false)) rfl rfl rfl rfl (.pickF rfl rfl) rfl ?_
            refine RunD.ot0 (x := .v (.bool false)) rfl rfl rfl rfl (.assignX rfl) rfl ?_
            refine RunD.nil (by kernel_rfl) ⟨rfl, rfl, ?_⟩
            obtain rfl := si H
            refine T.sub (sub_to (st' := ⟨[(0, .v (.bool false))], [], 8, []⟩) [] (by decide) rfl rfl (⟨⟨_, rfl, .one .v⟩, trivial⟩) (trivial)) ?_
            refine T.ret ?_
            exact RetOk.same [.v (.bool false)] ⟨rfl, trivial⟩ rfl rfl rfl
        · replace H := cf H g62
          refine RunD.xn rfl rfl rfl (bo g62) rfl rfl ?_
          refine RunD.xn rfl rfl rfl (bo g62) rfl rfl ?_
          refine RunD.xn rfl rfl rfl (bo g62) rfl rfl ?_
          refine RunD.ot0 (x := .v (.bool false)) rfl rfl rfl rfl (.pickF (bo g62) rfl) rfl ?_
          refine RunD.ot0 (x := .v (.bool false)) rfl rfl rfl rfl (.moveX rfl) rfl ?_
          refine RunD.xn rfl rfl rfl rfl rfl rfl ?_
          refine RunD.xn rfl rfl rfl rfl rfl rfl ?_
          refine RunD.xn rfl rfl rfl rfl rfl rfl ?_
          refine RunD.xn rfl rfl rfl rfl rfl rfl ?_
          refine RunD.xn rfl rfl rfl rfl rfl rfl ?_
          refine RunD.ot0 (x := .v (.bool false)) rfl rfl rfl rfl (.pickF rfl rfl) rfl ?_
          refine RunD.ot0 (x := .v (.bool false)) rfl rfl rfl rfl (.moveX rfl) rfl ?_
          refine RunD.xn rfl rfl rfl rfl rfl rfl ?_
          refine RunD.xn rfl rfl rfl rfl rfl rfl ?_
          refine RunD.xn rfl rfl rfl rfl rfl rfl ?_
          refine RunD.xn rfl rfl rfl rfl rfl rfl ?_
          refine RunD.xn rfl rfl rfl rfl rfl rfl ?_
          refine RunD.xn rfl rfl rfl rfl rfl rfl ?_
          refine RunD.ot0 (x := .v (.bool false)) rfl rfl rfl rfl (.pickF rfl rfl) rfl ?_
          refine RunD.ot0 (x := .v (.bool false)) rfl rfl rfl rfl (.moveX rfl) rfl ?_
          refine RunD.xn rfl rfl rfl rfl rfl rfl ?_
          refine RunD.ot0 (x := .v (.bool false)) rfl rfl rfl rfl (.pickF rfl rfl) rfl ?_
          refine RunD.ot0 (x := .v (.bool false)) rfl rfl rfl rfl (.moveX rfl) rfl ?_
          refine RunD.xn rfl rfl rfl rfl rfl rfl ?_
          refine RunD.xn rfl rfl rfl rfl rfl rfl ?_
          refine RunD.xn rfl rfl rfl rfl rfl rfl ?_
          refine RunD.ot0 (x := .v (.bool false)) rfl rfl rfl rfl (.pickF rfl rfl) rfl ?_
          refine RunD.ot0 (x := .v (.bool false)) rfl rfl rfl rfl (.moveX rfl) rfl ?_
          refine RunD.xn rfl rfl rfl rfl rfl rfl ?_
          refine RunD.xn rfl rfl rfl rfl rfl rfl ?_
          refine RunD.xn rfl rfl rfl rfl rfl rfl ?_
          refine RunD.xn rfl rfl rfl rfl rfl rfl ?_
          refine RunD.ot0 (x := .v (.bool false)) rfl rfl rfl rfl (.pickF rfl rfl) rfl ?_
          refine RunD.ot0 (x := .v (.bool false)) rfl rfl rfl rfl (.moveX rfl) rfl ?_
          refine RunD.xn rfl rfl rfl rfl rfl rfl ?_
          refine RunD.xn rfl rfl rfl rfl rfl rfl ?_
          refine RunD.ot0 (x := .v (.bool false)) rfl rfl rfl rfl (.pickF rfl rfl) rfl ?_
          refine RunD.ot0 (x := .v (.bool false)) rfl rfl rfl rfl (.moveX rfl) rfl ?_
          refine RunD.xn rfl rfl rfl rfl rfl rfl ?_
          refine RunD.xn rfl rfl rfl rfl rfl rfl ?_
          refine RunD.xn rfl rfl rfl rfl rfl rfl ?_
          refine RunD.xn rfl rfl rfl rfl rfl rfl ?_
          refine RunD.ot0 (x := .v (.bool false)) rfl rfl rfl rfl (.pickF rfl rfl) rfl ?_
          refine RunD.ot0 (x := .v (.bool false)) rfl rfl rfl rfl (.moveX rfl) rfl ?_
          refine RunD.xn rfl rfl rfl rfl rfl rfl ?_
          refine RunD.xn rfl rfl rfl rfl rfl rfl ?_
          refine RunD.xn rfl rfl rfl rfl rfl rfl ?_
          refine RunD.xn rfl rfl rfl rfl rfl rfl ?_
          refine RunD.xn rfl rfl rfl rfl rfl rfl ?_
          refine RunD.ot0 (x := .v (.bool false)) rfl rfl rfl rfl (.pickF rfl rfl) rfl ?_
          refine RunD.ot0 (x := .v (.bool false)) rfl rfl rfl rfl (.moveX rfl) rfl ?_
          refine RunD.xn rfl rfl rfl rfl rfl rfl ?_
          refine RunD.xn rfl rfl rfl rfl rfl rfl ?_
          refine RunD.xn rfl rfl rfl rfl rfl rfl ?_
          refine RunD.ot0 (x := .v (.bool false)) rfl rfl rfl rfl (.pickF rfl rfl) rfl ?_
          refine RunD.ot0 (x := .v (.bool false)) rfl rfl rfl rfl (.moveX rfl) rfl ?_
          refine RunD.xn rfl rfl rfl rfl rfl rfl ?_
          refine RunD.xn rfl rfl rfl rfl rfl rfl ?_
          refine RunD.xn rfl rfl rfl rfl rfl rfl ?_
          refine RunD.xn rfl rfl rfl rfl rfl rfl ?_
          refine RunD.xn rfl rfl rfl rfl rfl rfl ?_
          refine RunD.ot0 (x := .v (.bool false)) rfl rfl rfl rfl (.pickF rfl rfl) rfl ?_
          refine RunD.ot0 (x := .v (.bool false)) rfl rfl rfl rfl (.assignX rfl) rfl ?_
          refine RunD.nil (by kernel_rfl) ⟨rfl, rfl, ?_⟩
          obtain rfl := si H
          refine T.sub (sub_to (st' := ⟨[(0, .v (.bool false))], [], 8, []⟩) [] (by decide) rfl rfl (⟨⟨_, rfl, .one .v⟩, trivial⟩) (trivial)) ?_
          refine T.ret ?_
          exact RetOk.same [.v (.bool false)] ⟨rfl, trivial⟩ rfl rfl rfl
      · replace H := cf H g59
        refine RunD.xn rfl rfl rfl (bo g59) rfl rfl ?_
        refine RunD.xn rfl rfl rfl (bo g59) rfl rfl ?_
        refine RunD.xn rfl rfl rfl (bo g59) rfl rfl ?_
        refine RunD.ot0 (x := .v (.bool false)) rfl rfl rfl rfl (.pickF (bo g59) rfl) rfl ?_
        refine RunD.ot0 (x := .v (.bool false)) rfl rfl rfl rfl (.moveX rfl) rfl ?_
        refine RunD.xn rfl rfl rfl rfl rfl rfl ?_
        refine RunD.xn rfl rfl rfl rfl rfl rfl ?_
        refine RunD.xn rfl rfl rfl rfl rfl rfl ?_
        refine RunD.ot0 (x := .v (.bool false)) rfl rfl rfl rfl (.pickF rfl rfl) rfl ?_
        refine RunD.ot0 (x := .v (.bool false)) rfl rfl rfl rfl (.moveX rfl) rfl ?_
        refine RunD.xn rfl rfl rfl rfl rfl rfl ?_
        refine RunD.xn rfl rfl rfl rfl rfl rfl ?_
        refine RunD.xn rfl rfl rfl rfl rfl rfl ?_
        refine RunD.xn rfl rfl rfl rfl rfl rfl ?_
        refine RunD.xn rfl rfl rfl rfl rfl rfl ?_
        refine RunD.ot0 (x := .v (.bool false)) rfl rfl rfl rfl (.pickF rfl rfl) rfl ?_
        refine RunD.ot0 (x := .v (.bool false)) rfl rfl rfl rfl (.moveX rfl) rfl ?_
        refine RunD.xn rfl rfl rfl rfl rfl rfl ?_
        refine RunD.xn rfl rfl rfl rfl rfl rfl ?_
        refine RunD.xn rfl rfl rfl rfl rfl rfl ?_
        refine RunD.xn rfl rfl rfl rfl rfl rfl ?_
        refine RunD.xn rfl rfl rfl rfl rfl rfl ?_
        refine RunD.xn rfl rfl rfl rfl rfl rfl ?_
        refine RunD.ot0 (x := .v (.bool false)) rfl rfl rfl rfl (.pickF rfl rfl) rfl ?_
        refine RunD.ot0 (x := .v (.bool false)) rfl rfl rfl rfl (.moveX rfl) rfl ?_
        refine RunD.xn rfl rfl rfl rfl rfl rfl ?_
        refine RunD.ot0 (x := .v (.bool false)) rfl rfl rfl rfl (.pickF rfl rfl) rfl ?_
        refine RunD.ot0 (x := .v (.bool false)) rfl rfl rfl rfl (.moveX rfl) rfl ?_
        refine RunD.xn rfl rfl rfl rfl rfl rfl ?_
        refine RunD.xn rfl rfl rfl rfl rfl rfl ?_
        refine RunD.xn rfl rfl rfl rfl rfl rfl ?_
        refine RunD.ot0 (x := .v (.bool false)) rfl rfl rfl rfl (.pickF rfl rfl) rfl ?_
        refine RunD.ot0 (x := .v (.bool false)) rfl rfl rfl rfl (.moveX rfl) rfl ?_
        refine RunD.xn rfl rfl rfl rfl rfl rfl ?_
        refine RunD.xn rfl rfl rfl rfl rfl rfl ?_
        refine RunD.xn rfl rfl rfl rfl rfl rfl ?_
        refine RunD.xn rfl rfl rfl rfl rfl rfl ?_
        refine RunD.ot0 (x := .v (.bool false)) rfl rfl rfl rfl (.pickF rfl rfl) rfl ?_
        refine RunD.ot0 (x := .v (.bool false)) rfl rfl rfl rfl (.moveX rfl) rfl ?_
        refine RunD.xn rfl rfl rfl rfl rfl rfl ?_
        refine RunD.xn rfl rfl rfl rfl rfl rfl ?_
        refine RunD.ot0 (x := .v (.bool false)) rfl rfl rfl rfl (.pickF rfl rfl) rfl ?_
        refine RunD.ot0 (x := .v (.bool false)) rfl rfl rfl rfl (.moveX rfl) rfl ?_
        refine RunD.xn rfl rfl rfl rfl rfl rfl ?_
        refine RunD.xn rfl rfl rfl rfl rfl rfl ?_
        refine RunD.xn rfl rfl rfl rfl rfl rfl ?_
        refine RunD.xn rfl rfl rfl rfl rfl rfl ?_
        refine RunD.ot0 (x := .v (.bool false)) rfl rfl rfl rfl (.pickF rfl rfl) rfl ?_
        refine RunD.ot0 (x := .v (.bool false)) rfl rfl rfl rfl (.moveX rfl) rfl ?_
        refine RunD.xn rfl rfl rfl rfl rfl rfl ?_
        refine RunD.xn rfl rfl rfl rfl rfl rfl ?_
        refine RunD.xn rfl rfl rfl rfl rfl rfl ?_
        refine RunD.xn rfl rfl rfl rfl rfl rfl ?_
        refine RunD.xn rfl rfl rfl rfl rfl rfl ?_
        refine RunD.ot0 (x := .v (.bool false)) rfl rfl rfl rfl (.pickF rfl rfl) rfl ?_
        refine RunD.ot0 (x := .v (.bool false)) rfl rfl rfl rfl (.moveX rfl) rfl ?_
        refine RunD.xn rfl rfl rfl rfl rfl rfl ?_
        refine RunD.xn rfl rfl rfl rfl rfl rfl ?_
        refine RunD.xn rfl rfl rfl rfl rfl rfl ?_
        refine RunD.ot0 (x := .v (.bool false)) rfl rfl rfl rfl (.pickF rfl rfl) rfl ?_
        refine RunD.ot0 (x := .v (.bool false)) rfl rfl rfl rfl (.moveX rfl) rfl ?_
        refine RunD.xn rfl rfl rfl rfl rfl rfl ?_
        refine RunD.xn rfl rfl rfl rfl rfl rfl ?_
        refine RunD.xn rfl rfl rfl rfl rfl rfl ?_
        refine RunD.xn rfl rfl rfl rfl rfl rfl ?_
        refine RunD.xn rfl rfl rfl rfl rfl rfl ?_
        refine RunD.ot0 (x := .v (.bool false)) rfl rfl rfl rfl (.pickF rfl rfl) rfl ?_
        refine RunD.ot0 (x := .v (.bool false)) rfl rfl rfl rfl (.assignX rfl) rfl ?_
        refine RunD.nil (by kernel_rfl) ⟨rfl, rfl, ?_⟩
        obtain rfl := si H
        refine T.sub (sub_to (st' := ⟨[(0, .v (.bool false))], [], 8, []⟩) [] (by decide) rfl rfl (⟨⟨_, rfl, .one .v⟩, trivial⟩) (trivial)) ?_
        refine T.ret ?_
        exact RetOk.same [.v (.bool false)] ⟨rfl, trivial⟩ rfl rfl rfl
    · replace H := cf H g56
      refine RunD.xn rfl rfl rfl (bo g56) rfl rfl ?_
      refine RunD.xn rfl rfl rfl (bo g56) rfl rfl ?_
      refine RunD.xn rfl rfl rfl (bo g56) rfl rfl ?_
      refine RunD.ot0 (x := .v (.bool false)) rfl rfl rfl rfl (.pickF (bo g56) rfl) rfl ?_
      refine RunD.ot0 (x := .v (.bool false)) rfl rfl rfl rfl (.moveX rfl) rfl ?_
      refine RunD.xn rfl rfl rfl rfl rfl rfl ?_
      refine RunD.xn rfl rfl rfl rfl rfl rfl ?_
      refine RunD.xn rfl rfl rfl rfl rfl rfl ?_
      refine RunD.ot0 (x := .v (.bool false)) rfl rfl rfl rfl (.pickF rfl rfl) rfl ?_
      refine RunD.ot0 (x := .v (.bool false)) rfl rfl rfl rfl (.moveX rfl) rfl ?_
      refine RunD.xn rfl rfl rfl rfl rfl rfl ?_
      refine RunD.xn rfl rfl rfl rfl rfl rfl ?_
      refine RunD.xn rfl rfl rfl rfl rfl rfl ?_
      refine RunD.ot0 (x := .v (.bool false)) rfl rfl rfl rfl (.pickF rfl rfl) rfl ?_
      refine RunD.ot0 (x := .v (.bool false)) rfl rfl rfl rfl (.moveX rfl) rfl ?_
      refine RunD.xn rfl rfl rfl rfl rfl rfl ?_
      refine RunD.xn rfl rfl rfl rfl rfl rfl ?_
      refine RunD.xn rfl rfl rfl rfl rfl rfl ?_
      refine RunD.xn rfl rfl rfl rfl rfl rfl ?_
      refine RunD.xn rfl rfl rfl rfl rfl rfl ?_
      refine RunD.ot0 (x := .v (.bool false)) rfl rfl rfl rfl (.pickF rfl rfl) rfl ?_
      refine RunD.ot0 (x := .v (.bool false)) rfl rfl rfl rfl (.moveX rfl) rfl ?_
      refine RunD.xn rfl rfl rfl rfl rfl rfl ?_
      refine RunD.xn rfl rfl rfl rfl rfl rfl ?_
      refine RunD.xn rfl rfl rfl rfl rfl rfl ?_
      refine RunD.xn rfl rfl rfl rfl rfl rfl ?_
      refine RunD.xn rfl rfl rfl rfl rfl rfl ?_
      refine RunD.xn rfl rfl rfl rfl rfl rfl ?_
      refine RunD.ot0 (x := .v (.bool false)) rfl rfl rfl rfl (.pickF rfl rfl) rfl ?_
      refine RunD.ot0 (x := .v (.bool false)) rfl rfl rfl rfl (.moveX rfl) rfl ?_
      refine RunD.xn rfl rfl rfl rfl rfl rfl ?_
      refine RunD.ot0 (x := .v (.bool false)) rfl rfl rfl rfl (.pickF rfl rfl) rfl ?_
      refine RunD.ot0 (x := .v (.bool false)) rfl rfl rfl rfl (.moveX rfl) rfl ?_
      refine RunD.xn rfl rfl rfl rfl rfl rfl ?_
      refine RunD.xn rfl rfl rfl rfl rfl rfl ?_
      refine RunD.xn rfl rfl rfl rfl rfl rfl ?_
      refine RunD.ot0 (x := .v (.bool false)) rfl rfl rfl rfl (.pickF rfl rfl) rfl ?_
      refine RunD.ot0 (x := .v (.bool false)) rfl rfl rfl rfl (.moveX rfl) rfl ?_
      refine RunD.xn rfl rfl rfl rfl rfl rfl ?_
      refine RunD.xn rfl rfl rfl rfl rfl rfl ?_
      refine RunD.xn rfl rfl rfl rfl rfl rfl ?_
      refine RunD.xn rfl rfl rfl rfl rfl rfl ?_
      refine RunD.ot0 (x := .v (.bool false)) rfl rfl rfl rfl (.pickF rfl rfl) rfl ?_
      refine RunD.ot0 (x := .v (.bool false)) rfl rfl rfl rfl (.moveX rfl) rfl ?_
      refine RunD.xn rfl rfl rfl rfl rfl rfl ?_
      refine RunD.xn rfl rfl rfl rfl rfl rfl ?_
      refine RunD.ot0 (x := .v (.bool false)) rfl rfl rfl rfl (.pickF rfl rfl) rfl ?_
      refine RunD.ot0 (x := .v (.bool false)) rfl rfl rfl rfl (.moveX rfl) rfl ?_
      refine RunD.xn rfl rfl rfl rfl rfl rfl ?_
      refine RunD.xn rfl rfl rfl rfl rfl rfl ?_
      refine RunD.xn rfl rfl rfl rfl rfl rfl ?_
      refine RunD.xn rfl rfl rfl rfl rfl rfl ?_
      refine RunD.ot0 (x := .v (.bool false)) rfl rfl rfl rfl (.pickF rfl rfl) rfl ?_
      refine RunD.ot0 (x := .v (.bool false)) rfl rfl rfl rfl (.moveX rfl) rfl ?_
      refine RunD.xn rfl rfl rfl rfl rfl rfl ?_
      refine RunD.xn rfl rfl rfl rfl rfl rfl ?_
      refine RunD.xn rfl rfl rfl rfl rfl rfl ?_
      refine RunD.xn rfl rfl rfl rfl rfl rfl ?_
      refine RunD.xn rfl rfl rfl rfl rfl rfl ?_
      refine RunD.ot0 (x := .v (.bool false)) rfl rfl rfl rfl (.pickF rfl rfl) rfl ?_
      refine RunD.ot0 (x := .v (.bool false)) rfl rfl rfl rfl (.moveX rfl) rfl ?_
      refine RunD.xn rfl rfl rfl rfl rfl rfl ?_
      refine RunD.xn rfl rfl rfl rfl rfl rfl ?_
      refine RunD.xn rfl rfl rfl rfl rfl rfl ?_
      refine RunD.ot0 (x := .v (.bool false)) rfl rfl rfl rfl (.pickF rfl rfl) rfl ?_
      refine RunD.ot0 (x := .v (.bool false)) rfl rfl rfl rfl (.moveX rfl) rfl ?_
      refine RunD.xn rfl rfl rfl rfl rfl rfl ?_
      refine RunD.xn rfl rfl rfl rfl rfl rfl ?_
      refine RunD.xn rfl rfl rfl rfl rfl rfl ?_
      refine RunD.xn rfl rfl rfl rfl rfl rfl ?_
      refine RunD.xn rfl rfl rfl rfl rfl rfl ?_
      refine RunD.ot0 (x := .v (.bool false)) rfl rfl rfl rfl (.pickF rfl rfl) rfl ?_
      refine RunD.ot0 (x := .v (.bool false)) rfl rfl rfl rfl (.assignX rfl) rfl ?_
      refine RunD.nil (by kernel_rfl) ⟨rfl, rfl, ?_⟩
      obtain rfl := si H
      refine T.sub (sub_to (st' := ⟨[(0, .v (.bool false))], [], 8, []⟩) [] (by decide) rfl rfl (⟨⟨_, rfl, .one .v⟩, trivial⟩) (trivial)) ?_
      refine T.ret ?_
      exact RetOk.same [.v (.bool false)] ⟨rfl, trivial⟩ rfl rfl rfl
  · replace H := cf H g53
    refine RunD.xn rfl rfl rfl (bo g53) rfl rfl ?_
    refine RunD.xn rfl rfl rfl (bo g53) rfl rfl ?_
    refine RunD.xn rfl rfl rfl (bo g53) rfl rfl ?_
    refine RunD.ot0 (x := .v (.bool false)) rfl rfl rfl rfl (.pickF (bo g53) rfl) rfl ?_
    refine RunD.ot0 (x := .v (.bool false)) rfl rfl rfl rfl (.moveX rfl) rfl ?_
    refine RunD.xn rfl rfl rfl rfl rfl rfl ?_
    refine RunD.xn rfl rfl rfl rfl rfl rfl ?_
    refine RunD.xn rfl rfl rfl rfl rfl rfl ?_
    refine RunD.ot0 (x := .v (.bool false)) rfl rfl rfl rfl (.pickF rfl rfl) rfl ?_
    refine RunD.ot0 (x := .v (.bool false)) rfl rfl rfl rfl (.moveX rfl) rfl ?_
    refine RunD.xn rfl rfl rfl rfl rfl rfl ?_
    refine RunD.xn rfl rfl rfl rfl rfl rfl ?_
    refine RunD.xn rfl rfl rfl rfl rfl rfl ?_
    refine RunD.ot0 (x := .v (.bool false)) rfl rfl rfl rfl (.pickF rfl rfl) rfl ?_
    refine RunD.ot0 (x := .v (.bool false)) rfl rfl rfl rfl (.moveX rfl) rfl ?_
    refine RunD.xn rfl rfl rfl rfl rfl rfl ?_
    refine RunD.xn rfl rfl rfl rfl rfl rfl ?_
    refine RunD.xn rfl rfl rfl rfl rfl rfl ?_
    refine RunD.ot0 (x := .v (.bool false)) rfl rfl rfl rfl (.pickF rfl rfl) rfl ?_
    refine RunD.ot0 (x := .v (.bool false)) rfl rfl rfl rfl (.moveX rfl) rfl ?_
    refine RunD.xn rfl rfl rfl rfl rfl rfl ?_
    refine RunD.xn rfl rfl rfl rfl rfl rfl ?_
    refine RunD.xn rfl rfl rfl rfl rfl rfl ?_
    refine RunD.xn rfl rfl rfl rfl rfl rfl ?_
    refine RunD.xn rfl rfl rfl rfl rfl rfl ?_
    refine RunD.ot0 (x := .v (.bool false)) rfl rfl rfl rfl (.pickF rfl rfl) rfl ?_
    refine RunD.ot0 (x := .v (.bool false)) rfl rfl rfl rfl (.moveX rfl) rfl ?_
    refine RunD.xn rfl rfl rfl rfl rfl rfl ?_
    refine RunD.xn rfl rfl rfl rfl rfl rfl ?_
    refine RunD.xn rfl rfl rfl rfl rfl rfl ?_
    refine RunD.xn rfl rfl rfl rfl rfl rfl ?_
    refine RunD.xn rfl rfl rfl rfl rfl rfl ?_
    refine RunD.xn rfl rfl rfl rfl rfl rfl ?_
    refine RunD.ot0 (x := .v (.bool false)) rfl rfl rfl rfl (.pickF rfl rfl) rfl ?_
    refine RunD.ot0 (x := .v (.bool false)) rfl rfl rfl rfl (.moveX rfl) rfl ?_
    refine RunD.xn rfl rfl rfl rfl rfl rfl ?_
    refine RunD.ot0 (x := .v (.bool false)) rfl rfl rfl rfl (.pickF rfl rfl) rfl ?_
    refine RunD.ot0 (x := .v (.bool false)) rfl rfl rfl rfl (.moveX rfl) rfl ?_
    refine RunD.xn rfl rfl rfl rfl rfl rfl ?_
    refine RunD.xn rfl rfl rfl rfl rfl rfl ?_
    refine RunD.xn rfl rfl rfl rfl rfl rfl ?_
    refine RunD.ot0 (x := .v (.bool false)) rfl rfl rfl rfl (.pickF rfl rfl) rfl ?_
    refine RunD.ot0 (x := .v (.bool false)) rfl rfl rfl rfl (.moveX rfl) rfl ?_
    refine RunD.xn rfl rfl rfl rfl rfl rfl ?_
    refine RunD.xn rfl rfl rfl rfl rfl rfl ?_
    refine RunD.xn rfl rfl rfl rfl rfl rfl ?_
    refine RunD.xn rfl rfl rfl rfl rfl rfl ?_
    refine RunD.ot0 (x := .v (.bool false)) rfl rfl rfl rfl (.pickF rfl rfl) rfl ?_
    refine RunD.ot0 (x := .v (.bool false)) rfl rfl rfl rfl (.moveX rfl) rfl ?_
    refine RunD.xn rfl rfl rfl rfl rfl rfl ?_
    refine RunD.xn rfl rfl rfl rfl rfl rfl ?_
    refine RunD.ot0 (x := .v (.bool false)) rfl rfl rfl rfl (.pickF rfl rfl) rfl ?_
    refine RunD.ot0 (x := .v (.bool false)) rfl rfl rfl rfl (.moveX rfl) rfl ?_
    refine RunD.xn rfl rfl rfl rfl rfl rfl ?_
    refine RunD.xn rfl rfl rfl rfl rfl rfl ?_
    refine RunD.xn rfl rfl rfl rfl rfl rfl ?_
    refine RunD.xn rfl rfl rfl rfl rfl rfl ?_
    refine RunD.ot0 (x := .v (.bool false)) rfl rfl rfl rfl (.pickF rfl rfl) rfl ?_
    refine RunD.ot0 (x := .v (.bool false)) rfl rfl rfl rfl (.moveX rfl) rfl ?_
    refine RunD.xn rfl rfl rfl rfl rfl rfl ?_
    refine RunD.xn rfl rfl rfl rfl rfl rfl ?_
    refine RunD.xn rfl rfl rfl rfl rfl rfl ?_
    refine RunD.xn rfl rfl rfl rfl rfl rfl ?_
    refine RunD.xn rfl rfl rfl rfl rfl rfl ?_
    refine RunD.ot0 (x := .v (.bool false)) rfl rfl rfl rfl (.pickF rfl rfl) rfl ?_
    refine RunD.ot0 (x := .v (.bool false)) rfl rfl rfl rfl (.moveX rfl) rfl ?_
    refine RunD.xn rfl rfl rfl rfl rfl rfl ?_
    refine RunD.xn rfl rfl rfl rfl rfl rfl ?_
    refine RunD.xn rfl rfl rfl rfl rfl rfl ?_
    refine RunD.ot0 (x := .v (.bool false)) rfl rfl rfl rfl (.pickF rfl rfl) rfl ?_
    refine RunD.ot0 (x := .v (.bool false)) rfl rfl rfl rfl (.moveX rfl) rfl ?_
    refine RunD.xn rfl rfl rfl rfl rfl rfl ?_
    refine RunD.xn rfl rfl rfl rfl rfl rfl ?_
    refine RunD.xn rfl rfl rfl rfl rfl rfl ?_
    refine RunD.xn rfl rfl rfl rfl rfl rfl ?_
    refine RunD.xn rfl rfl rfl rfl rfl rfl ?_
    refine RunD.ot0 (x := .v (.bool false)) rfl rfl rfl rfl (.pickF rfl rfl) rfl ?_
    refine RunD.ot0 (x := .v (.bool false)) rfl rfl rfl rfl (.assignX rfl) rfl ?_
    refine RunD.nil (by kernel_rfl) ⟨rfl, rfl, ?_⟩
    obtain rfl := si H
    refine T.sub (sub_to (st' := ⟨[(0, .v (.bool false))], [], 8, []⟩) [] (by decide) rfl rfl (⟨⟨_, rfl, .one .v⟩, trivial⟩) (trivial)) ?_
    refine T.ret ?_
    exact RetOk.same [.v (.bool false)] ⟨rfl, trivial⟩ rfl rfl rfl
set_option maxHeartbeats 4000000 in
theorem ref2_in_pc (al : Bool) (k : Nat) (a0 : Int) (a1 : Int) (a2 : Int) (o : Bool) (H : ref2_in k a0 a1 a2 = some o) : PC Try.prog al 133 [.v (.int .i64 a0), .v (.int .i64 a1), .v (.int .i64 a2)] (.v (.bool o)) := by
  unfold ref2_in at H
  refine PC.of_T Try.func133 rfl rfl (n := 15) rfl rfl (.inr rfl) ?_
  intro base B w0
  refine T.st (st' := ⟨[(0, .v (.int .i64 a0)), (1, .v (.int .i64 a1)), (2, .v (.int .i64 a2))], [], 0, []⟩) rfl ?_
  refine T.seq ?_
  refine T.region ?_
  refine RunT.ot0 (x := .v (.bool false)) rfl rfl rfl rfl (.assignX rfl) ?_
  refine RunT.nil ?_
  refine T.seq ?_
  refine T.region ?_
  refine RunT.ot0 (x := .v (.int .i64 a0)) rfl rfl rfl rfl (.moveX rfl) ?_
  refine RunT.ot0 (x := .v (.int .i64 a1)) rfl rfl rfl rfl (.moveX rfl) ?_
  refine RunT.ot0 (x := .v (.bool (decide (a1 ≤ a0)))) rfl rfl rfl rfl (.bin rfl rfl (fun w => b_geq w) rfl) ?_
  refine RunT.ot0 (x := .v (.bool (decide (a1 ≤ a0)))) rfl rfl rfl rfl (.moveX rfl) ?_
  refine RunT.cases (t := 10) (c := decide (a1 ≤ a0)) rfl (fun g1 => ?_) (fun g1 => ?_)
  · replace H := ct H g1
    refine RunT.gt0 (x := .v (.int .i64 a0)) rfl rfl rfl (bo g1) rfl rfl (.moveX rfl) ?_
    refine RunT.gt0 (x := .v (.int .i64 a2)) rfl rfl rfl (bo g1) rfl rfl (.moveX rfl) ?_
    refine RunT.gt0 (x := .v (.bool (decide (a0 ≤ a2)))) rfl rfl rfl (bo g1) rfl rfl (.bin rfl rfl (fun w => b_leq w) rfl) ?_
    refine RunT.ot0 (x := .v (.bool (decide (a0 ≤ a2)))) rfl rfl rfl rfl (.pickT (bo g1) rfl) ?_
    refine RunT.ot0 (x := .v (.bool (decide (a0 ≤ a2)))) rfl rfl rfl rfl (.assignX rfl) ?_
    refine RunT.nil ?_
    obtain rfl := si H
    refine T.sub (sub_to (st' := ⟨[(6, .v (.bool (decide (a0 ≤ a2))))], [], 8, []⟩) [] (by decide) rfl rfl (⟨⟨_, rfl, .one .v⟩, trivial⟩) (trivial)) ?_
    refine T.ret ?_
    exact RetOk.same [.v (.bool (decide (a0 ≤ a2)))] ⟨rfl, trivial⟩ rfl rfl rfl
  · replace H := cf H g1
    refine RunT.xn rfl rfl rfl (bo g1) rfl rfl ?_
    refine RunT.xn rfl rfl rfl (bo g1) rfl rfl ?_
    refine RunT.xn rfl rfl rfl (bo g1) rfl rfl ?_
    refine RunT.ot0 (x := .v (.bool false)) rfl rfl rfl rfl (.pickF (bo g1) rfl) ?_
    refine RunT.ot0 (x := .v (.bool false)) rfl rfl rfl rfl (.assignX rfl) ?_
    refine RunT.nil ?_
    obtain rfl := si H
    refine T.sub (sub_to (st' := ⟨[(6, .v (.bool false))], [], 8, []⟩) [] (by decide) rfl rfl (⟨⟨_, rfl, .one .v⟩, trivial⟩) (trivial)) ?_
    refine T.ret ?_
    exact RetOk.same [.v (.bool false)] ⟨rfl, trivial⟩ rfl rfl rfl
set_option maxHeartbeats 4000000 in
theorem ref2_coord_pc (al : Bool) (k : Nat) (a0 : Int) (o : Bool) (H : ref2_coord k a0 = some o) : PC Try.prog al 155 [.v (.int .i64 a0)] (.v (.bool o)) := by
  unfold ref2_coord at H
  refine PC.of_T Try.func155 rfl rfl (n := 5) rfl rfl (.inr rfl) ?_
  intro base B w0
  refine T.st (st' := ⟨[(0, .v (.int .i64 a0))], [], 0, []⟩) rfl ?_
  refine T.seq ?_
  refine T.region ?_
  refine RunT.ot0 (x := .v (.bool false)) rfl rfl rfl rfl (.assignX rfl) ?_
  refine RunT.nil ?_
  refine T.seq ?_
  refine T.region ?_
  refine RunT.ot0 (x := .v (.int .i64 a0)) rfl rfl rfl rfl (.moveX rfl) ?_
  obtain ⟨r1, h2, H⟩ := bs H
  refine RunT.ot0 (x := .v (.bool r1)) rfl rfl rfl rfl (.callp (ref2_in_pc false k a0 (-1048576) 1048576 r1 h2) rfl ⟨(.one .v), (.one .v), (.one .v), trivial⟩ rfl rfl rfl) ?_
  refine RunT.ot0 (x := .v (.bool r1)) rfl rfl rfl rfl (.assignX rfl) ?_
  refine RunT.nil ?_
  obtain rfl := si H
  refine T.sub (sub_to (st' := ⟨[(2, .v (.bool r1))], [], 8, []⟩) [] (by decide) rfl rfl (⟨⟨_, rfl, .one .v⟩, trivial⟩) (trivial)) ?_
  refine T.ret ?_
  exact RetOk.same [.v (.bool r1)] ⟨rfl, trivial⟩ rfl rfl rfl
set_option maxHeartbeats 4000000 in
theorem ref2_Less_pc (al : Bool) (k : Nat) (a0 : Seat) (a1 : Seat) (o : Bool) (H : ref2_Less k a0 a1 = some o) : PC Try.prog al 156 [.agg [.v (.int .i64 a0.Row), .v (.int .i64 a0.X), .v (.int .i64 a0.Y), .v (.int .i64 a0.Kind)], .agg [.v (.int .i64 a1.Row), .v (.int .i64 a1.X), .v (.int .i64 a1.Y), .v (.int .i64 a1.Kind)]] (.v (.bool o)) := by
  unfold ref2_Less at H
  refine PC.of_T Try.func156 rfl rfl (n := 24) rfl rfl (.inr rfl) ?_
  intro base B w0
  refine T.st (st' := ⟨[(0, .agg [.v (.int .i64 a0.Row), .v (.int .i64 a0.X), .v (.int .i64 a0.Y), .v (.int .i64 a0.Kind)]), (1, .agg [.v (.int .i64 a1.Row), .v (.int .i64 a1.X), .v (.int .i64 a1.Y), .v (.int .i64 a1.Kind)])], [], 0, []⟩) rfl ?_
  refine T.seq ?_
  refine T.region ?_
  refine RunT.ot1 (x := .ptr 0 0) (p0 := (0, some (.box [.v (.int .i64 a0.Row), .v (.int .i64 a0.X), .v (.int .i64 a0.Y), .v (.int .i64 a0.Kind)]))) (n' := 8) rfl rfl rfl rfl (.boxX rfl rfl rfl) rfl ?_
  refine RunT.ot1 (x := .ptr 8 0) (p0 := (8, some (.box [.v (.int .i64 a1.Row), .v (.int .i64 a1.X), .v (.int .i64 a1.Y), .v (.int .i64 a1.Kind)]))) (n' := 16) rfl rfl rfl rfl (.boxX rfl rfl rfl) rfl ?_
  refine RunT.ot0 (x := .v (.bool false)) rfl rfl rfl rfl (.assignX rfl) ?_
  refine RunT.nil ?_
  refine T.seq ?_
  refine T.region ?_
  refine RunT.ot0 (x := .ptr 0 0) rfl rfl rfl rfl (.fieldPX fl28_0 rfl rfl) ?_
  refine RunT.ot0 (x := .v (.int .i64 a0.Row)) rfl rfl rfl rfl (.loadP ty3 rfl rfl rfl) ?_
  refine RunT.ot0 (x := .ptr 8 0) rfl rfl rfl rfl (.fieldPX fl28_0 rfl rfl) ?_
  refine RunT.ot0 (x := .v (.int .i64 a1.Row)) rfl rfl rfl rfl (.loadP ty3 rfl rfl rfl) ?_
  refine RunT.ot0 (x := .v (.bool (decide (a0.Row < a1.Row)))) rfl rfl rfl rfl (.bin rfl rfl (fun w => b_lss w) rfl) ?_
  refine RunT.ot0 (x := .v (.bool (decide (a0.Row < a1.Row)))) rfl rfl rfl rfl (.moveX rfl) ?_
  refine RunT.cases (t := 10) (c := decide (a0.Row < a1.Row)) rfl (fun g1 => ?_) (fun g1 => ?_)
  · replace H := ct H g1
    refine RunT.xn rfl rfl rfl (bo g1) rfl rfl ?_
    refine RunT.xn rfl rfl rfl (bo g1) rfl rfl ?_
    refine RunT.xn rfl rfl rfl (bo g1) rfl rfl ?_
    refine RunT.xn rfl rfl rfl (bo g1) rfl rfl ?_
    refine RunT.xn rfl rfl rfl (bo g1) rfl rfl ?_
    refine RunT.xn rfl rfl rfl (bo g1) rfl rfl ?_
    refine RunT.xu rfl rfl rfl rfl rfl rfl ?_
    refine RunT.xu rfl rfl rfl rfl rfl rfl ?_
    refine RunT.xu rfl rfl rfl rfl rfl rfl ?_
    refine RunT.xu rfl rfl rfl rfl rfl rfl ?_
    refine RunT.xu rfl rfl rfl rfl rfl rfl ?_
    refine RunT.xn rfl rfl rfl (bo g1) rfl rfl ?_
    refine RunT.ot0 (x := .v (.bool true)) rfl rfl rfl rfl (.pickT (bo g1) rfl) ?_
    refine RunT.ot0 (x := .v (.bool true)) rfl rfl rfl rfl (.assignX rfl) ?_
    refine RunT.nil ?_
    obtain rfl := si H
    refine T.sub (sub_to (st' := ⟨[(4, .v (.bool true))], [], 8, []⟩) [] (by decide) rfl rfl (⟨⟨_, rfl, .one .v⟩, trivial⟩) (trivial)) ?_
    refine T.ret ?_
    exact RetOk.same [.v (.bool true)] ⟨rfl, trivial⟩ rfl rfl rfl
  · replace H := cf H g1
    refine RunT.gt0 (x := .ptr 0 0) rfl rfl rfl (bo g1) rfl rfl (.fieldPX fl28_0 rfl rfl) ?_
    refine RunT.gt0 (x := .v (.int .i64 a0.Row)) rfl rfl rfl (bo g1) rfl rfl (.loadP ty3 rfl rfl rfl) ?_
    refine RunT.gt0 (x := .ptr 8 0) rfl rfl rfl (bo g1) rfl rfl (.fieldPX fl28_0 rfl rfl) ?_
    refine RunT.gt0 (x := .v (.int .i64 a1.Row)) rfl rfl rfl (bo g1) rfl rfl (.loadP ty3 rfl rfl rfl) ?_
    refine RunT.gt0 (x := .v (.bool (decide (a0.Row = a1.Row)))) rfl rfl rfl (bo g1) rfl rfl (.bin rfl rfl (fun w => b_eql w) rfl) ?_
    refine RunT.gt0 (x := .v (.bool (decide (a0.Row = a1.Row)))) rfl rfl rfl (bo g1) rfl rfl (.moveX rfl) ?_
    refine RunT.cases (t := 16) (c := decide (a0.Row = a1.Row)) rfl (fun g2 => ?_) (fun g2 => ?_)
    · replace H := ct H g2
      refine RunT.gt0 (x := .ptr 0 1) rfl rfl rfl (bo g2) rfl rfl (.fieldPX fl28_1 rfl rfl) ?_
      refine RunT.gt0 (x := .v (.int .i64 a0.X)) rfl rfl rfl (bo g2) rfl rfl (.loadP ty3 rfl rfl rfl) ?_
      refine RunT.gt0 (x := .ptr 8 1) rfl rfl rfl (bo g2) rfl rfl (.fieldPX fl28_1 rfl rfl) ?_
      refine RunT.gt0 (x := .v (.int .i64 a1.X)) rfl rfl rfl (bo g2) rfl rfl (.loadP ty3 rfl rfl rfl) ?_
      refine RunT.gt0 (x := .v (.bool (decide (a0.X < a1.X)))) rfl rfl rfl (bo g2) rfl rfl (.bin rfl rfl (fun w => b_lss w) rfl) ?_
      refine RunT.gt0 (x := .v (.bool (decide (a0.X < a1.X)))) rfl rfl rfl (bo g1) rfl rfl (.pickT (bo g2) rfl) ?_
      refine RunT.ot0 (x := .v (.bool (decide (a0.X < a1.X)))) rfl rfl rfl rfl (.pickF (bo g1) rfl) ?_
      refine RunT.ot0 (x := .v (.bool (decide (a0.X < a1.X)))) rfl rfl rfl rfl (.assignX rfl) ?_
      refine RunT.nil ?_
      obtain rfl := si H
      refine T.sub (sub_to (st' := ⟨[(4, .v (.bool (decide (a0.X < a1.X))))], [], 8, []⟩) [] (by decide) rfl rfl (⟨⟨_, rfl, .one .v⟩, trivial⟩) (trivial)) ?_
      refine T.ret ?_
      exact RetOk.same [.v (.bool (decide (a0.X < a1.X)))] ⟨rfl, trivial⟩ rfl rfl rfl
    · replace H := cf H g2
      refine RunT.xn rfl rfl rfl (bo g2) rfl rfl ?_
      refine RunT.xn rfl rfl rfl (bo g2) rfl rfl ?_
      refine RunT.xn rfl rfl rfl (bo g2) rfl rfl ?_
      refine RunT.xn rfl rfl rfl (bo g2) rfl rfl ?_
      refine RunT.xn rfl rfl rfl (bo g2) rfl rfl ?_
      refine RunT.gt0 (x := .v (.bool false)) rfl rfl rfl (bo g1) rfl rfl (.pickF (bo g2) rfl) ?_
      refine RunT.ot0 (x := .v (.bool false)) rfl rfl rfl rfl (.pickF (bo g1) rfl) ?_
      refine RunT.ot0 (x := .v (.bool false)) rfl rfl rfl rfl (.assignX rfl) ?_
      refine RunT.nil ?_
      obtain rfl := si H
      refine T.sub (sub_to (st' := ⟨[(4, .v (.bool false))], [], 8, []⟩) [] (by decide) rfl rfl (⟨⟨_, rfl, .one .v⟩, trivial⟩) (trivial)) ?_
      refine T.ret ?_
      exact RetOk.same [.v (.bool false)] ⟨rfl, trivial⟩ rfl rfl rfl
set_option maxHeartbeats 4000000 in
theorem ref2_seats_pc (al : Bool) (k : Nat) (a0 : (List Seat)) (o : Bool) (H : ref2_seats k a0 = some o) : PC Try.prog al 132 [.lst (List.map eSeat a0)] (.v (.bool o)) := by
  unfold ref2_seats at H
  refine PC.of_T Try.func132 rfl rfl (n := 59) rfl rfl (.inr rfl) ?_
  intro base B w0
  refine T.st (st' := ⟨[(0, .lst (List.map eSeat a0))], [], 0, []⟩) rfl ?_
  refine T.seq ?_
  refine T.region ?_
  refine RunT.ot0 (x := .v (.bool false)) rfl rfl rfl rfl (.assignX rfl) ?_
  refine RunT.nil ?_
  refine T.seq ?_
  refine T.seq ?_
  refine T.region ?_
  refine RunT.ot0 (x := .v (.int .i64 0)) rfl rfl rfl rfl (.assignX rfl) ?_
  refine RunT.nil ?_
  obtain ⟨o44, E45, HO46⟩ := bs H
  refine T.cutPE (fun v47 => o44 = .go v47) (fun v47 => ⟨[(0, .lst (List.map eSeat a0))], [], 8, []⟩) ?_ ?_
  · have H := E45
    refine T.block ?_
    refine T.loopS (fun n s => ∃ (v48 : Int), ref2_seats_l0 k a0 n v48 = some o44 ∧ s = ⟨[(0, .lst (List.map eSeat a0)), (3, .v (.int .i64 v48))], [], 8, []⟩) k ⟨_, ⟨0, H, rfl⟩, sub_to [] (by decide) rfl rfl (⟨⟨_, rfl, .one .lst⟩, ⟨⟨_, rfl, .one .v⟩, trivial⟩⟩) (trivial)⟩ ?_
    rintro n s ⟨v48, H, rfl⟩
    rcases n with _ | n
    · cases (show none = some _ from H)
    rw [ref2_seats_l0] at H
    refine T.seq ?_
    refine T.seq ?_
    refine T.region ?_
    refine RunT.ot0 (x := .v (.int .i64 v48)) rfl rfl rfl rfl (.moveX rfl) ?_
    refine RunT.ot0 (x := .lst (List.map eSeat a0)) rfl rfl rfl rfl (.moveX rfl) ?_
    refine RunT.ot0 (x := .v (.int .i64 (a0.length : Int))) rfl rfl rfl rfl (.lenLm Try.underlying22 rfl rfl) ?_
    refine RunT.ot0 (x := .v (.bool (decide (v48 < (a0.length : Int))))) rfl rfl rfl rfl (.bin rfl rfl (fun w => b_lss w) rfl) ?_
    refine RunT.nil ?_
    refine T.cond2 (t := decide (v48 < (a0.length : Int))) rfl (fun c49 => ?_) (fun c49 => ?_)
    · replace H := ct H c49
      refine T.skip ?_
      refine T.seq ?_
      refine T.block ?_
      refine T.seq ?_
      refine T.region ?_
      refine RunT.ot0 (x := .lst (List.map eSeat a0)) rfl rfl rfl rfl (.moveX rfl) ?_
      refine RunT.ot0 (x := .v (.int .i64 v48)) rfl rfl rfl rfl (.moveX rfl) ?_
      obtain ⟨y50, h51, H⟩ := bs H
      refine RunT.ot0 (x := .rptr [.v (.int .i64 y50.Row), .v (.int .i64 y50.X), .v (.int .i64 y50.Y), .v (.int .i64 y50.Kind)]) rfl rfl rfl rfl (.idxLX h51 enc_Seat sl22 rfl rfl rfl) ?_
      refine RunT.ot0 (x := .agg [.v (.int .i64 y50.Row), .v (.int .i64 y50.X), .v (.int .i64 y50.Y), .v (.int .i64 y50.Kind)]) rfl rfl rfl rfl (.loadR ty28 rfl rfl) ?_
      refine RunT.ot1 (x := .ptr 8 0) (p0 := (8, some (.box [.v (.int .i64 0), .v (.int .i64 0), .v (.int .i64 0), .v (.int .i64 0)]))) (n' := 16) rfl rfl rfl rfl (.allocX in28.zero rfl rfl) rfl ?_
      refine RunT.on1 (x := .junk) (p0 := (8, some (.box [.v (.int .i64 y50.Row), .v (.int .i64 y50.X), .v (.int .i64 y50.Y), .v (.int .i64 y50.Kind)]))) (n' := 24) rfl rfl rfl (.storePX ty28 rfl rfl rfl rfl rfl rfl rfl) rfl ?_
      refine RunT.nil ?_
      refine T.seq ?_
      refine T.draw (wr := []) mixed rfl rfl ?_ rfl
      refine RunD.ot0 (x := .ptr 8 0) rfl rfl rfl rfl (.fieldPX fl28_0 rfl rfl) rfl ?_
      refine RunD.ot0 (x := .v (.int .i64 y50.Row)) rfl rfl rfl rfl (.loadP ty3 rfl rfl rfl) rfl ?_
      obtain ⟨r69, h70, H⟩ := bs H
      refine RunD.ot0 (x := .v (.bool r69)) rfl rfl rfl rfl (.callp (ref2_in_pc false k y50.Row 0 999 r69 h70) rfl ⟨(.one .v), (.one .v), (.one .v), trivial⟩ rfl rfl rfl) rfl ?_
      refine RunD.ot0 (x := .v (.bool (!r69))) rfl rfl rfl rfl (.un rfl (fun w => u_not w) rfl) rfl ?_
      refine RunD.ot0 (x := .v (.bool (!r69))) rfl rfl rfl rfl (.moveX rfl) rfl ?_
      refine RunD.cases (t := 19) (c := !r69) rfl (fun g71 => ?_) (fun g71 => ?_)
      · replace H := ct H g71
        refine RunD.xn rfl rfl rfl (bo g71) rfl rfl ?_
        refine RunD.xn rfl rfl rfl (bo g71) rfl rfl ?_
        refine RunD.xn rfl rfl rfl (bo g71) rfl rfl ?_
        refine RunD.xn rfl rfl rfl (bo g71) rfl rfl ?_
        refine RunD.ot0 (x := .v (.bool true)) rfl rfl rfl rfl (.pickT (bo g71) rfl) rfl ?_
        refine RunD.ot0 (x := .v (.bool true)) rfl rfl rfl rfl (.moveX rfl) rfl ?_
        refine RunD.xn rfl rfl rfl rfl rfl rfl ?_
        refine RunD.xn rfl rfl rfl rfl rfl rfl ?_
        refine RunD.xn rfl rfl rfl rfl rfl rfl ?_
        refine RunD.xn rfl rfl rfl rfl rfl rfl ?_
        refine RunD.ot0 (x := .v (.bool true)) rfl rfl rfl rfl (.pickT rfl rfl) rfl ?_
        refine RunD.ot0 (x := .v (.bool true)) rfl rfl rfl rfl (.moveX rfl) rfl ?_
        refine RunD.xn rfl rfl rfl rfl rfl rfl ?_
        refine RunD.xn rfl rfl rfl rfl rfl rfl ?_
        refine RunD.xn rfl rfl rfl rfl rfl rfl ?_
        refine RunD.xn rfl rfl rfl rfl rfl rfl ?_
        refine RunD.ot0 (x := .v (.bool true)) rfl rfl rfl rfl (.pickT rfl rfl) rfl ?_
        refine RunD.ot0 (x := .v (.bool true)) rfl rfl rfl rfl (.moveX rfl) rfl ?_
        refine RunD.xn rfl rfl rfl rfl rfl rfl ?_
        refine RunD.xn rfl rfl rfl rfl rfl rfl ?_
        refine RunD.xn rfl rfl rfl rfl rfl rfl ?_
        refine RunD.xu rfl rfl rfl rfl rfl rfl ?_
        refine RunD.xu rfl rfl rfl rfl rfl rfl ?_
        refine RunD.xu rfl rfl rfl rfl rfl rfl ?_
        refine RunD.xu rfl rfl rfl rfl rfl rfl ?_
        refine RunD.xu rfl rfl rfl rfl rfl rfl ?_
        refine RunD.xu rfl rfl rfl rfl rfl rfl ?_
        refine RunD.xu rfl rfl rfl rfl rfl rfl ?_
        refine RunD.xu rfl rfl rfl rfl rfl rfl ?_
        refine RunD.xn rfl rfl rfl rfl rfl rfl ?_
        refine RunD.ot0 (x := .v (.bool true)) rfl rfl rfl rfl (.pickT rfl rfl) rfl ?_
        refine RunD.nil (by kernel_rfl) ⟨rfl, rfl, ?_⟩
        refine T.condT rfl ?_
        refine T.seq ?_
        refine T.sub (sub_pick [] [] (st' := ⟨[], [], 312, []⟩) rfl rfl rfl rfl rfl) ?_
        refine T.region ?_
        refine RunT.ot0 (x := .v (.bool false)) rfl rfl rfl rfl (.assignX rfl) ?_
        refine RunT.nil ?_
        obtain rfl := si H
        have HX := exr HO46
        obtain rfl := si HX
        refine T.sub (sub_to (st' := ⟨[(2, .v (.bool false))], [], 8, []⟩) [] (by decide) rfl rfl (⟨⟨_, rfl, .one .v⟩, trivial⟩) (trivial)) ?_
        refine T.ret ?_
        exact RetOk.same [.v (.bool false)] ⟨rfl, trivial⟩ rfl rfl rfl
      · replace H := cf H g71
        refine RunD.gt0 (x := .ptr 8 1) rfl rfl rfl (bo g71) rfl rfl (.fieldPX fl28_1 rfl rfl) rfl ?_
        refine RunD.gt0 (x := .v (.int .i64 y50.X)) rfl rfl rfl (bo g71) rfl rfl (.loadP ty3 rfl rfl rfl) rfl ?_
        obtain ⟨r72, h73, H⟩ := bs H
        refine RunD.gt0 (x := .v (.bool r72)) rfl rfl rfl (bo g71) rfl rfl (.callp (ref2_coord_pc false k y50.X r72 h73) rfl ⟨(.one .v), trivial⟩ rfl rfl rfl) rfl ?_
        refine RunD.gt0 (x := .v (.bool (!r72))) rfl rfl rfl (bo g71) rfl rfl (.un rfl (fun w => u_not w) rfl) rfl ?_
        refine RunD.ot0 (x := .v (.bool (!r72))) rfl rfl rfl rfl (.pickF (bo g71) rfl) rfl ?_
        refine RunD.ot0 (x := .v (.bool (!r72))) rfl rfl rfl rfl (.moveX rfl) rfl ?_
        refine RunD.cases (t := 25) (c := !r72) rfl (fun g74 => ?_) (fun g74 => ?_)
        · replace H := ct H g74
          refine RunD.xn rfl rfl rfl (bo g74) rfl rfl ?_
          refine RunD.xn rfl rfl rfl (bo g74) rfl rfl ?_
          refine RunD.xn rfl rfl rfl (bo g74) rfl rfl ?_
          refine RunD.xn rfl rfl rfl (bo g74) rfl rfl ?_
          refine RunD.ot0 (x := .v (.bool true)) rfl rfl rfl rfl (.pickT (bo g74) rfl) rfl ?_
          refine RunD.ot0 (x := .v (.bool true)) rfl rfl rfl rfl (.moveX rfl) rfl ?_
          refine RunD.xn rfl rfl rfl rfl rfl rfl ?_
          refine RunD.xn rfl rfl rfl rfl rfl rfl ?_
          refine RunD.xn rfl rfl rfl rfl rfl rfl ?_
          refine RunD.xn rfl rfl rfl rfl rfl rfl ?_
          refine RunD.ot0 (x := .v (.bool true)) rfl rfl rfl rfl (.pickT rfl rfl) rfl ?_
          refine RunD.ot0 (x := .v (.bool true)) rfl rfl rfl rfl (.moveX rfl) rfl ?_
          refine RunD.xn rfl rfl rfl rfl rfl rfl ?_
          refine RunD.xn rfl rfl rfl rfl rfl rfl ?_
          refine RunD.xn rfl rfl rfl rfl rfl rfl ?_
          refine RunD.xu rfl rfl rfl rfl rfl rfl ?_
          refine RunD.xu rfl rfl rfl rfl rfl rfl ?_
          refine RunD.xu rfl rfl rfl rfl rfl rfl ?_
          refine RunD.xu rfl rfl rfl rfl rfl rfl ?_
          refine RunD.xu rfl rfl rfl rfl rfl rfl ?_
          refine RunD.xu rfl rfl rfl rfl rfl rfl ?_
          refine RunD.xu rfl rfl rfl rfl rfl rfl ?_
          refine RunD.xu rfl rfl rfl rfl rfl rfl ?_
          refine RunD.xn rfl rfl rfl rfl rfl rfl ?_
          refine RunD.ot0 (x := .v (.bool true)) rfl rfl rfl rfl (.pickT rfl rfl) rfl ?_
          refine RunD.nil (by kernel_rfl) ⟨rfl, rfl, ?_⟩
          refine T.condT rfl ?_
          refine T.seq ?_
          refine T.sub (sub_pick [] [] (st' := ⟨[], [], 312, []⟩) rfl rfl rfl rfl rfl) ?_
          refine T.region ?_
          refine RunT.ot0 (x := .v (.bool false)) rfl rfl rfl rfl (.assignX rfl) ?_
          refine RunT.nil ?_
          obtain rfl := si H
          have HX := exr HO46
          obtain rfl := si HX
          refine T.sub (sub_to (st' := ⟨[(2, .v (.bool false))], [], 8, []⟩) [] (by decide) rfl rfl (⟨⟨_, rfl, .one .v⟩, trivial⟩) (trivial)) ?_
          refine T.ret ?_
          exact RetOk.same [.v (.bool false)] ⟨rfl, trivial⟩ rfl rfl rfl
        · replace H := cf H g74
          refine RunD.gt0 (x := .ptr 8 2) rfl rfl rfl (bo g74) rfl rfl (.fieldPX fl28_2 rfl rfl) rfl ?_
          refine RunD.gt0 (x := .v (.int .i64 y50.Y)) rfl rfl rfl (bo g74) rfl rfl (.loadP ty3 rfl rfl rfl) rfl ?_
          obtain ⟨r75, h76, H⟩ := bs H
          refine RunD.gt0 (x := .v (.bool r75)) rfl rfl rfl (bo g74) rfl rfl (.callp (ref2_coord_pc false k y50.Y r75 h76) rfl ⟨(.one .v), trivial⟩ rfl rfl rfl) rfl ?_
          refine RunD.gt0 (x := .v (.bool (!r75))) rfl rfl rfl (bo g74) rfl rfl (.un rfl (fun w => u_not w) rfl) rfl ?_
          refine RunD.ot0 (x := .v (.bool (!r75))) rfl rfl rfl rfl (.pickF (bo g74) rfl) rfl ?_
          refine RunD.ot0 (x := .v (.bool (!r75))) rfl rfl rfl rfl (.moveX rfl) rfl ?_
          refine RunD.cases (t := 31) (c := !r75) rfl (fun g77 => ?_) (fun g77 => ?_)
          · replace H := ct H g77
            refine RunD.xn rfl rfl rfl (bo g77) rfl rfl ?_
            refine RunD.xn rfl rfl rfl (bo g77) rfl rfl ?_
            refine RunD.xn rfl rfl rfl (bo g77) rfl rfl ?_
            refine RunD.xn rfl rfl rfl (bo g77) rfl rfl ?_
            refine RunD.ot0 (x := .v (.bool true)) rfl rfl rfl rfl (.pickT (bo g77) rfl) rfl ?_
            refine RunD.ot0 (x := .v (.bool true)) rfl rfl rfl rfl (.moveX rfl) rfl ?_
            refine RunD.xn rfl rfl rfl rfl rfl rfl ?_
            refine RunD.xn rfl rfl rfl rfl rfl rfl ?_
            refine RunD.xn rfl rfl rfl rfl rfl rfl ?_
            refine RunD.xu rfl rfl rfl rfl rfl rfl ?_
            refine RunD.xu rfl rfl rfl rfl rfl rfl ?_
            refine RunD.xu rfl rfl rfl rfl rfl rfl ?_
            refine RunD.xu rfl rfl rfl rfl rfl rfl ?_
            refine RunD.xu rfl rfl rfl rfl rfl rfl ?_
            refine RunD.xu rfl rfl rfl rfl rfl rfl ?_
            refine RunD.xu rfl rfl rfl rfl rfl rfl ?_
            refine RunD.xu rfl rfl rfl rfl rfl rfl ?_
            refine RunD.xn rfl rfl rfl rfl rfl rfl ?_
            refine RunD.ot0 (x := .v (.bool true)) rfl rfl rfl rfl (.pickT rfl rfl) rfl ?_
            refine RunD.nil (by kernel_rfl) ⟨rfl, rfl, ?_⟩
            refine T.condT rfl ?_
            refine T.seq ?_
            refine T.sub (sub_pick [] [] (st' := ⟨[], [], 312, []⟩) rfl rfl rfl rfl rfl) ?_
            refine T.region ?_
            refine RunT.ot0 (x := .v (.bool false)) rfl rfl rfl rfl (.assignX rfl) ?_
            refine RunT.nil ?_
            obtain rfl := si H
            have HX := exr HO46
            obtain rfl := si HX
            refine T.sub (sub_to (st' := ⟨[(2, .v (.bool false))], [], 8, []⟩) [] (by decide) rfl rfl (⟨⟨_, rfl, .one .v⟩, trivial⟩) (trivial)) ?_
            refine T.ret ?_
            exact RetOk.same [.v (.bool false)] ⟨rfl, trivial⟩ rfl rfl rfl
          · replace H := cf H g77
            refine RunD.gt0 (x := .ptr 8 3) rfl rfl rfl (bo g77) rfl rfl (.fieldPX fl28_3 rfl rfl) rfl ?_
            refine RunD.gt0 (x := .v (.int .i64 y50.Kind)) rfl rfl rfl (bo g77) rfl rfl (.loadP ty3 rfl rfl rfl) rfl ?_
            obtain ⟨r78, h79, H⟩ := bs H
            refine RunD.gt0 (x := .v (.bool r78)) rfl rfl rfl (bo g77) rfl rfl (.callp (ref2_in_pc false k y50.Kind 0 2 r78 h79) rfl ⟨(.one .v), (.one .v), (.one .v), trivial⟩ rfl rfl rfl) rfl ?_
            refine RunD.gt0 (x := .v (.bool (!r78))) rfl rfl rfl (bo g77) rfl rfl (.un rfl (fun w => u_not w) rfl) rfl ?_
            refine RunD.ot0 (x := .v (.bool (!r78))) rfl rfl rfl rfl (.pickF (bo g77) rfl) rfl ?_
            refine RunD.ot0 (x := .v (.bool (!r78))) rfl rfl rfl rfl (.moveX rfl) rfl ?_
            refine RunD.cases (t := 37) (c := !r78) rfl (fun g80 => ?_) (fun g80 => ?_)
            · replace H := ct H g80
              refine RunD.xn rfl rfl rfl (bo g80) rfl rfl ?_
              refine RunD.xn rfl rfl rfl (bo g80) rfl rfl ?_
              refine RunD.xn rfl rfl rfl (bo g80) rfl rfl ?_
              refine RunD.xu rfl rfl rfl rfl rfl rfl ?_
              refine RunD.xu rfl rfl rfl rfl rfl rfl ?_
              refine RunD.xu rfl rfl rfl rfl rfl rfl ?_
              refine RunD.xu rfl rfl rfl rfl rfl rfl ?_
              refine RunD.xu rfl rfl rfl rfl rfl rfl ?_
              refine RunD.xu rfl rfl rfl rfl rfl rfl ?_
              refine RunD.xu rfl rfl rfl rfl rfl rfl ?_
              refine RunD.xu rfl rfl rfl rfl rfl rfl ?_
              refine RunD.xn rfl rfl rfl (bo g80) rfl rfl ?_
              refine RunD.ot0 (x := .v (.bool true)) rfl rfl rfl rfl (.pickT (bo g80) rfl) rfl ?_
              refine RunD.nil (by kernel_rfl) ⟨rfl, rfl, ?_⟩
              refine T.condT rfl ?_
              refine T.seq ?_
              refine T.sub (sub_pick [] [] (st' := ⟨[], [], 312, []⟩) rfl rfl rfl rfl rfl) ?_
              refine T.region ?_
              refine RunT.ot0 (x := .v (.bool false)) rfl rfl rfl rfl (.assignX rfl) ?_
              refine RunT.nil ?_
              obtain rfl := si H
              have HX := exr HO46
              obtain rfl := si HX
              refine T.sub (sub_to (st' := ⟨[(2, .v (.bool false))], [], 8, []⟩) [] (by decide) rfl rfl (⟨⟨_, rfl, .one .v⟩, trivial⟩) (trivial)) ?_
              refine T.ret ?_
              exact RetOk.same [.v (.bool false)] ⟨rfl, trivial⟩ rfl rfl rfl
            · replace H := cf H g80
              refine RunD.gt0 (x := .v (.int .i64 v48)) rfl rfl rfl (bo g80) rfl rfl (.moveX rfl) rfl ?_
              refine RunD.gt0 (x := .v (.bool (decide (0 < v48)))) rfl rfl rfl (bo g80) rfl rfl (.bin rfl rfl (fun w => b_gtr w) rfl) rfl ?_
              refine RunD.gt0 (x := .v (.bool (decide (0 < v48)))) rfl rfl rfl (bo g80) rfl rfl (.moveX rfl) rfl ?_
              refine RunD.cases (t := 40) (c := decide (0 < v48)) rfl (fun g81 => ?_) (fun g81 => ?_)
              · replace H := ct H g81
                refine RunD.gt0 (x := .lst (List.map eSeat a0)) rfl rfl rfl (bo g81) rfl rfl (.moveX rfl) rfl ?_
                refine RunD.gt0 (x := .v (.int .i64 v48)) rfl rfl rfl (bo g81) rfl rfl (.moveX rfl) rfl ?_
                refine RunD.gt0 (x := .v (.int .i64 (wr (v48 - 1)))) rfl rfl rfl (bo g81) rfl rfl (.bin rfl rfl (fun w => b_subw w) rfl) rfl ?_
                obtain ⟨y82, h83, H⟩ := bs H
                refine RunD.gt0 (x := .rptr [.v (.int .i64 y82.Row), .v (.int .i64 y82.X), .v (.int .i64 y82.Y), .v (.int .i64 y82.Kind)]) rfl rfl rfl (bo g81) rfl rfl (.idxLX h83 enc_Seat sl22 rfl rfl rfl) rfl ?_
                refine RunD.gt0 (x := .agg [.v (.int .i64 y82.Row), .v (.int .i64 y82.X), .v (.int .i64 y82.Y), .v (.int .i64 y82.Kind)]) rfl rfl rfl (bo g81) rfl rfl (.loadR ty28 rfl rfl) rfl ?_
                refine RunD.gt0 (x := .agg [.v (.int .i64 y50.Row), .v (.int .i64 y50.X), .v (.int .i64 y50.Y), .v (.int .i64 y50.Kind)]) rfl rfl rfl (bo g81) rfl rfl (.loadP ty28 rfl rfl rfl) rfl ?_
                obtain ⟨r84, h85, H⟩ := bs H
                refine RunD.gt0 (x := .v (.bool r84)) rfl rfl rfl (bo g81) rfl rfl (.callp (ref2_Less_pc false k y82 y50 r84 h85) rfl ⟨(.agg' ⟨.v, .v, .v, .v, trivial⟩), (.agg' ⟨.v, .v, .v, .v, trivial⟩), trivial⟩ rfl rfl rfl) rfl ?_
                refine RunD.gt0 (x := .v (.bool (!r84))) rfl rfl rfl (bo g81) rfl rfl (.un rfl (fun w => u_not w) rfl) rfl ?_
                refine RunD.gt0 (x := .v (.bool (!r84))) rfl rfl rfl (bo g80) rfl rfl (.pickT (bo g81) rfl) rfl ?_
                refine RunD.ot0 (x := .v (.bool (!r84))) rfl rfl rfl rfl (.pickF (bo g80) rfl) rfl ?_
                refine RunD.nil (by kernel_rfl) ⟨rfl, rfl, ?_⟩
                refine T.cond2 (t := !r84) rfl (fun c86 => ?_) (fun c86 => ?_)
                · replace H := ct H c86
                  refine T.seq ?_
                  refine T.sub (sub_pick [] [] (st' := ⟨[], [], 312, []⟩) rfl rfl rfl rfl rfl) ?_
                  refine T.region ?_
                  refine RunT.ot0 (x := .v (.bool false)) rfl rfl rfl rfl (.assignX rfl) ?_
                  refine RunT.nil ?_
                  obtain rfl := si H
                  have HX := exr HO46
                  obtain rfl := si HX
                  refine T.sub (sub_to (st' := ⟨[(2, .v (.bool false))], [], 8, []⟩) [] (by decide) rfl rfl (⟨⟨_, rfl, .one .v⟩, trivial⟩) (trivial)) ?_
                  refine T.ret ?_
                  exact RetOk.same [.v (.bool false)] ⟨rfl, trivial⟩ rfl rfl rfl
                · replace H := cf H c86
                  refine T.skip ?_
                  refine T.region ?_
                  refine RunT.ot0 (x := .v (.int .i64 v48)) rfl rfl rfl rfl (.moveX rfl) ?_
                  refine RunT.ot0 (x := .v (.int .i64 (wr (v48 + 1)))) rfl rfl rfl rfl (.bin rfl rfl (fun w => b_addw w) rfl) ?_
                  refine RunT.ot0 (x := .v (.int .i64 (wr (v48 + 1)))) rfl rfl rfl rfl (.assignX rfl) ?_
                  refine RunT.nil ?_
                  exact ⟨n, Nat.lt_succ_self n, _, ⟨wr (v48 + 1), H, rfl⟩, (sub_to [] (by decide) rfl rfl (⟨⟨_, rfl, .one .lst⟩, ⟨⟨_, rfl, .one .v⟩, trivial⟩⟩) (trivial))⟩
              · replace H := cf H g81
                refine RunD.xn rfl rfl rfl (bo g81) rfl rfl ?_
                refine RunD.xn rfl rfl rfl (bo g81) rfl rfl ?_
                refine RunD.xn rfl rfl rfl (bo g81) rfl rfl ?_
                refine RunD.xn rfl rfl rfl (bo g81) rfl rfl ?_
                refine RunD.xn rfl rfl rfl (bo g81) rfl rfl ?_
                refine RunD.xn rfl rfl rfl (bo g81) rfl rfl ?_
                refine RunD.xn rfl rfl rfl (bo g81) rfl rfl ?_
                refine RunD.xn rfl rfl rfl (bo g81) rfl rfl ?_
                refine RunD.gt0 (x := .v (.bool false)) rfl rfl rfl (bo g80) rfl rfl (.pickF (bo g81) rfl) rfl ?_
                refine RunD.ot0 (x := .v (.bool false)) rfl rfl rfl rfl (.pickF (bo g80) rfl) rfl ?_
                refine RunD.nil (by kernel_rfl) ⟨rfl, rfl, ?_⟩
                refine T.condF rfl ?_
                refine T.skip ?_
                refine T.sub (sub_pick [0, 3] [] (st' := ⟨[(0, .lst (List.map eSeat a0)), (3, .v (.int .i64 v48))], [], 312, []⟩) rfl rfl rfl rfl rfl) ?_
                refine T.region ?_
                refine RunT.ot0 (x := .v (.int .i64 v48)) rfl rfl rfl rfl (.moveX rfl) ?_
                refine RunT.ot0 (x := .v (.int .i64 (wr (v48 + 1)))) rfl rfl rfl rfl (.bin rfl rfl (fun w => b_addw w) rfl) ?_
                refine RunT.ot0 (x := .v (.int .i64 (wr (v48 + 1)))) rfl rfl rfl rfl (.assignX rfl) ?_
                refine RunT.nil ?_
                exact ⟨n, Nat.lt_succ_self n, _, ⟨wr (v48 + 1), H, rfl⟩, (sub_to [] (by decide) rfl rfl (⟨⟨_, rfl, .one .lst⟩, ⟨⟨_, rfl, .one .v⟩, trivial⟩⟩) (trivial))⟩
    · replace H := cf H c49
      refine T.exit ?_
      obtain rfl := si H
      exact ⟨_, rfl, (sub_to [] (by decide) rfl rfl (⟨⟨_, rfl, .one .lst⟩, trivial⟩) (trivial))⟩
  · intro v47 s hR hS
    subst hR
    have H := exg HO46
    refine T.sub hS ?_
    refine T.seq ?_
    refine T.region ?_
    refine RunT.ot0 (x := .lst (List.map eSeat a0)) rfl rfl rfl rfl (.moveX rfl) ?_
    refine RunT.ot0 (x := .v (.int .i64 (a0.length : Int))) rfl rfl rfl rfl (.lenLm Try.underlying22 rfl rfl) ?_
    refine RunT.ot0 (x := .v (.bool (decide (1 ≤ (a0.length : Int))))) rfl rfl rfl rfl (.bin rfl rfl (fun w => b_geq w) rfl) ?_
    refine RunT.ot0 (x := .v (.bool (decide (1 ≤ (a0.length : Int))))) rfl rfl rfl rfl (.moveX rfl) ?_
    refine RunT.cases (t := 54) (c := decide (1 ≤ (a0.length : Int))) rfl (fun g87 => ?_) (fun g87 => ?_)
    · replace H := ct H g87
      refine RunT.gt0 (x := .lst (List.map eSeat a0)) rfl rfl rfl (bo g87) rfl rfl (.moveX rfl) ?_
      refine RunT.gt0 (x := .v (.int .i64 (a0.length : Int))) rfl rfl rfl (bo g87) rfl rfl (.lenLm Try.underlying22 rfl rfl) ?_
      refine RunT.gt0 (x := .v (.bool (decide ((a0.length : Int) ≤ 4096)))) rfl rfl rfl (bo g87) rfl rfl (.bin rfl rfl (fun w => b_leq w) rfl) ?_
      refine RunT.ot0 (x := .v (.bool (decide ((a0.length : Int) ≤ 4096)))) rfl rfl rfl rfl (.pickT (bo g87) rfl) ?_
      refine RunT.ot0 (x := .v (.bool (decide ((a0.length : Int) ≤ 4096)))) rfl rfl rfl rfl (.assignX rfl) ?_
      refine RunT.nil ?_
      obtain rfl := si H
      refine T.sub (sub_to (st' := ⟨[(2, .v (.bool (decide ((a0.length : Int) ≤ 4096))))], [], 8, []⟩) [] (by decide) rfl rfl (⟨⟨_, rfl, .one .v⟩, trivial⟩) (trivial)) ?_
      refine T.ret ?_
      exact RetOk.same [.v (.bool (decide ((a0.length : Int) ≤ 4096)))] ⟨rfl, trivial⟩ rfl rfl rfl
    · replace H := cf H g87
      refine RunT.xn rfl rfl rfl (bo g87) rfl rfl ?_
      refine RunT.xn rfl rfl rfl (bo g87) rfl rfl ?_
      refine RunT.xn rfl rfl rfl (bo g87) rfl rfl ?_
      refine RunT.ot0 (x := .v (.bool false)) rfl rfl rfl rfl (.pickF (bo g87) rfl) ?_
      refine RunT.ot0 (x := .v (.bool false)) rfl rfl rfl rfl (.assignX rfl) ?_
      refine RunT.nil ?_
      obtain rfl := si H
      refine T.sub (sub_to (st' := ⟨[(2, .v (.bool false))], [], 8, []⟩) [] (by decide) rfl rfl (⟨⟨_, rfl, .one .v⟩, trivial⟩) (trivial)) ?_
      refine T.ret ?_
      exact RetOk.same [.v (.bool false)] ⟨rfl, trivial⟩ rfl rfl rfl
set_option maxHeartbeats 4000000 in
theorem ref2_kills_pc (al : Bool) (k : Nat) (a0 : (List Int)) (a1 : Int) (o : Bool) (H : ref2_kills k a0 a1 = some o) : PC Try.prog al 134 [.lst (List.map eI a0), .v (.int .i64 a1)] (.v (.bool o)) := by
  unfold ref2_kills at H
  refine PC.of_T Try.func134 rfl rfl (n := 39) rfl rfl (.inr rfl) ?_
  intro base B w0
  refine T.st (st' := ⟨[(0, .lst (List.map eI a0)), (1, .v (.int .i64 a1))], [], 0, []⟩) rfl ?_
  refine T.seq ?_
  refine T.region ?_
  refine RunT.ot0 (x := .v (.bool false)) rfl rfl rfl rfl (.assignX rfl) ?_
  refine RunT.nil ?_
  refine T.seq ?_
  refine T.seq ?_
  refine T.region ?_
  refine RunT.ot0 (x := .v (.int .i64 0)) rfl rfl rfl rfl (.assignX rfl) ?_
  refine RunT.nil ?_
  obtain ⟨o26, E27, HO28⟩ := bs H
  refine T.cutPE (fun v29 => o26 = .go v29) (fun v29 => ⟨[(0, .lst (List.map eI a0))], [], 8, []⟩) ?_ ?_
  · have H := E27
    refine T.block ?_
    refine T.loopS (fun n s => ∃ (v30 : Int), ref2_kills_l0 k a0 a1 n v30 = some o26 ∧ s = ⟨[(0, .lst (List.map eI a0)), (1, .v (.int .i64 a1)), (5, .v (.int .i64 v30))], [], 8, []⟩) k ⟨_, ⟨0, H, rfl⟩, sub_to [] (by decide) rfl rfl (⟨⟨_, rfl, .one .lst⟩, ⟨⟨_, rfl, .one .v⟩, ⟨⟨_, rfl, .one .v⟩, trivial⟩⟩⟩) (trivial)⟩ ?_
    rintro n s ⟨v30, H, rfl⟩
    rcases n with _ | n
    · cases (show none = some _ from H)
    rw [ref2_kills_l0] at H
    refine T.seq ?_
    refine T.seq ?_
    refine T.region ?_
    refine RunT.ot0 (x := .v (.int .i64 v30)) rfl rfl rfl rfl (.moveX rfl) ?_
    refine RunT.ot0 (x := .lst (List.map eI a0)) rfl rfl rfl rfl (.moveX rfl) ?_
    refine RunT.ot0 (x := .v (.int .i64 (a0.length : Int))) rfl rfl rfl rfl (.lenLm Try.underlying23 rfl rfl) ?_
    refine RunT.ot0 (x := .v (.bool (decide (v30 < (a0.length : Int))))) rfl rfl rfl rfl (.bin rfl rfl (fun w => b_lss w) rfl) ?_
    refine RunT.nil ?_
    refine T.cond2 (t := decide (v30 < (a0.length : Int))) rfl (fun c31 => ?_) (fun c31 => ?_)
    · replace H := ct H c31
      refine T.skip ?_
      refine T.seq ?_
      refine T.block ?_
      refine T.seq ?_
      refine T.draw (wr := []) mixed rfl rfl ?_ rfl
      refine RunD.ot0 (x := .lst (List.map eI a0)) rfl rfl rfl rfl (.moveX rfl) rfl ?_
      refine RunD.ot0 (x := .v (.int .i64 v30)) rfl rfl rfl rfl (.moveX rfl) rfl ?_
      obtain ⟨y42, h43, H⟩ := bs H
      refine RunD.ot0 (x := .rptr [.v (.int .i64 y42)]) rfl rfl rfl rfl (.idxLX h43 enc_I sl23 rfl rfl rfl) rfl ?_
      refine RunD.ot0 (x := .v (.int .i64 y42)) rfl rfl rfl rfl (.loadR ty3 rfl rfl) rfl ?_
      refine RunD.ot0 (x := .v (.int .i64 a1)) rfl rfl rfl rfl (.moveX rfl) rfl ?_
      refine RunD.ot0 (x := .v (.int .i64 (wr (a1 - 1)))) rfl rfl rfl rfl (.bin rfl rfl (fun w => b_subw w) rfl) rfl ?_
      obtain ⟨r44, h45, H⟩ := bs H
      refine RunD.ot0 (x := .v (.bool r44)) rfl rfl rfl rfl (.callp (ref2_in_pc false k y42 0 (wr (a1 - 1)) r44 h45) rfl ⟨(.one .v), (.one .v), (.one .v), trivial⟩ rfl rfl rfl) rfl ?_
      refine RunD.ot0 (x := .v (.bool (!r44))) rfl rfl rfl rfl (.un rfl (fun w => u_not w) rfl) rfl ?_
      refine RunD.ot0 (x := .v (.bool (!r44))) rfl rfl rfl rfl (.moveX rfl) rfl ?_
      refine RunD.cases (t := 20) (c := !r44) rfl (fun g46 => ?_) (fun g46 => ?_)
      · replace H := ct H g46
        refine RunD.xn rfl rfl rfl (bo g46) rfl rfl ?_
        refine RunD.xn rfl rfl rfl (bo g46) rfl rfl ?_
        refine RunD.xn rfl rfl rfl (bo g46) rfl rfl ?_
        refine RunD.xu rfl rfl rfl rfl rfl rfl ?_
        refine RunD.xu rfl rfl rfl rfl rfl rfl ?_
        refine RunD.xu rfl rfl rfl rfl rfl rfl ?_
        refine RunD.xu rfl rfl rfl rfl rfl rfl ?_
        refine RunD.xu rfl rfl rfl rfl rfl rfl ?_
        refine RunD.xu rfl rfl rfl rfl rfl rfl ?_
        refine RunD.xu rfl rfl rfl rfl rfl rfl ?_
        refine RunD.xu rfl rfl rfl rfl rfl rfl ?_
        refine RunD.xu rfl rfl rfl rfl rfl rfl ?_
        refine RunD.xu rfl rfl rfl rfl rfl rfl ?_
        refine RunD.xn rfl rfl rfl (bo g46) rfl rfl ?_
        refine RunD.ot0 (x := .v (.bool true)) rfl rfl rfl rfl (.pickT (bo g46) rfl) rfl ?_
        refine RunD.nil (by kernel_rfl) ⟨rfl, rfl, ?_⟩
        refine T.condT rfl ?_
        refine T.seq ?_
        refine T.sub (sub_pick [] [] (st' := ⟨[], [], 200, []⟩) rfl rfl rfl rfl rfl) ?_
        refine T.region ?_
        refine RunT.ot0 (x := .v (.bool false)) rfl rfl rfl rfl (.assignX rfl) ?_
        refine RunT.nil ?_
        obtain rfl := si H
        have HX := exr HO28
        obtain rfl := si HX
        refine T.sub (sub_to (st' := ⟨[(4, .v (.bool false))], [], 8, []⟩) [] (by decide) rfl rfl (⟨⟨_, rfl, .one .v⟩, trivial⟩) (trivial)) ?_
        refine T.ret ?_
        exact RetOk.same [.v (.bool false)] ⟨rfl, trivial⟩ rfl rfl rfl
      · replace H := cf H g46
        refine RunD.gt0 (x := .v (.int .i64 v30)) rfl rfl rfl (bo g46) rfl rfl (.moveX rfl) rfl ?_
        refine RunD.gt0 (x := .v (.bool (decide (0 < v30)))) rfl rfl rfl (bo g46) rfl rfl (.bin rfl rfl (fun w => b_gtr w) rfl) rfl ?_
        refine RunD.gt0 (x := .v (.bool (decide (0 < v30)))) rfl rfl rfl (bo g46) rfl rfl (.moveX rfl) rfl ?_
        refine RunD.cases (t := 23) (c := decide (0 < v30)) rfl (fun g47 => ?_) (fun g47 => ?_)
        · replace H := ct H g47
          refine RunD.gt0 (x := .lst (List.map eI a0)) rfl rfl rfl (bo g47) rfl rfl (.moveX rfl) rfl ?_
          refine RunD.gt0 (x := .v (.int .i64 v30)) rfl rfl rfl (bo g47) rfl rfl (.moveX rfl) rfl ?_
          obtain ⟨y48, h49, H⟩ := bs H
          refine RunD.gt0 (x := .rptr [.v (.int .i64 y48)]) rfl rfl rfl (bo g47) rfl rfl (.idxLX h49 enc_I sl23 rfl rfl rfl) rfl ?_
          refine RunD.gt0 (x := .v (.int .i64 y48)) rfl rfl rfl (bo g47) rfl rfl (.loadR ty3 rfl rfl) rfl ?_
          refine RunD.gt0 (x := .lst (List.map eI a0)) rfl rfl rfl (bo g47) rfl rfl (.moveX rfl) rfl ?_
          refine RunD.gt0 (x := .v (.int .i64 v30)) rfl rfl rfl (bo g47) rfl rfl (.moveX rfl) rfl ?_
          refine RunD.gt0 (x := .v (.int .i64 (wr (v30 - 1)))) rfl rfl rfl (bo g47) rfl rfl (.bin rfl rfl (fun w => b_subw w) rfl) rfl ?_
          obtain ⟨y50, h51, H⟩ := bs H
          refine RunD.gt0 (x := .rptr [.v (.int .i64 y50)]) rfl rfl rfl (bo g47) rfl rfl (.idxLX h51 enc_I sl23 rfl rfl rfl) rfl ?_
          refine RunD.gt0 (x := .v (.int .i64 y50)) rfl rfl rfl (bo g47) rfl rfl (.loadR ty3 rfl rfl) rfl ?_
          refine RunD.gt0 (x := .v (.bool (decide (y48 ≤ y50)))) rfl rfl rfl (bo g47) rfl rfl (.bin rfl rfl (fun w => b_leq w) rfl) rfl ?_
          refine RunD.gt0 (x := .v (.bool (decide (y48 ≤ y50)))) rfl rfl rfl (bo g46) rfl rfl (.pickT (bo g47) rfl) rfl ?_
          refine RunD.ot0 (x := .v (.bool (decide (y48 ≤ y50)))) rfl rfl rfl rfl (.pickF (bo g46) rfl) rfl ?_
          refine RunD.nil (by kernel_rfl) ⟨rfl, rfl, ?_⟩
          refine T.cond2 (t := decide (y48 ≤ y50)) rfl (fun c52 => ?_) (fun c52 => ?_)
          · replace H := ct H c52
            refine T.seq ?_
            refine T.sub (sub_pick [] [] (st' := ⟨[], [], 200, []⟩) rfl rfl rfl rfl rfl) ?_
            refine T.region ?_
            refine RunT.ot0 (x := .v (.bool false)) rfl rfl rfl rfl (.assignX rfl) ?_
            refine RunT.nil ?_
            obtain rfl := si H
            have HX := exr HO28
            obtain rfl := si HX
            refine T.sub (sub_to (st' := ⟨[(4, .v (.bool false))], [], 8, []⟩) [] (by decide) rfl rfl (⟨⟨_, rfl, .one .v⟩, trivial⟩) (trivial)) ?_
            refine T.ret ?_
            exact RetOk.same [.v (.bool false)] ⟨rfl, trivial⟩ rfl rfl rfl
          · replace H := cf H c52
            refine T.skip ?_
            refine T.region ?_
            refine RunT.ot0 (x := .v (.int .i64 v30)) rfl rfl rfl rfl (.moveX rfl) ?_
            refine RunT.ot0 (x := .v (.int .i64 (wr (v30 + 1)))) rfl rfl rfl rfl (.bin rfl rfl (fun w => b_addw w) rfl) ?_
            refine RunT.ot0 (x := .v (.int .i64 (wr (v30 + 1)))) rfl rfl rfl rfl (.assignX rfl) ?_
            refine RunT.nil ?_
            exact ⟨n, Nat.lt_succ_self n, _, ⟨wr (v30 + 1), H, rfl⟩, (sub_to [] (by decide) rfl rfl (⟨⟨_, rfl, .one .lst⟩, ⟨⟨_, rfl, .one .v⟩, ⟨⟨_, rfl, .one .v⟩, trivial⟩⟩⟩) (trivial))⟩
        · replace H := cf H g47
          refine RunD.xn rfl rfl rfl (bo g47) rfl rfl ?_
          refine RunD.xn rfl rfl rfl (bo g47) rfl rfl ?_
          refine RunD.xn rfl rfl rfl (bo g47) rfl rfl ?_
          refine RunD.xn rfl rfl rfl (bo g47) rfl rfl ?_
          refine RunD.xn rfl rfl rfl (bo g47) rfl rfl ?_
          refine RunD.xn rfl rfl rfl (bo g47) rfl rfl ?_
          refine RunD.xn rfl rfl rfl (bo g47) rfl rfl ?_
          refine RunD.xn rfl rfl rfl (bo g47) rfl rfl ?_
          refine RunD.xn rfl rfl rfl (bo g47) rfl rfl ?_
          refine RunD.xn rfl rfl rfl (bo g47) rfl rfl ?_
          refine RunD.gt0 (x := .v (.bool false)) rfl rfl rfl (bo g46) rfl rfl (.pickF (bo g47) rfl) rfl ?_
          refine RunD.ot0 (x := .v (.bool false)) rfl rfl rfl rfl (.pickF (bo g46) rfl) rfl ?_
          refine RunD.nil (by kernel_rfl) ⟨rfl, rfl, ?_⟩
          refine T.condF rfl ?_
          refine T.skip ?_
          refine T.sub (sub_pick [0, 1, 5] [] (st' := ⟨[(0, .lst (List.map eI a0)), (1, .v (.int .i64 a1)), (5, .v (.int .i64 v30))], [], 200, []⟩) rfl rfl rfl rfl rfl) ?_
          refine T.region ?_
          refine RunT.ot0 (x := .v (.int .i64 v30)) rfl rfl rfl rfl (.moveX rfl) ?_
          refine RunT.ot0 (x := .v (.int .i64 (wr (v30 + 1)))) rfl rfl rfl rfl (.bin rfl rfl (fun w => b_addw w) rfl) ?_
          refine RunT.ot0 (x := .v (.int .i64 (wr (v30 + 1)))) rfl rfl rfl rfl (.assignX rfl) ?_
          refine RunT.nil ?_
          exact ⟨n, Nat.lt_succ_self n, _, ⟨wr (v30 + 1), H, rfl⟩, (sub_to [] (by decide) rfl rfl (⟨⟨_, rfl, .one .lst⟩, ⟨⟨_, rfl, .one .v⟩, ⟨⟨_, rfl, .one .v⟩, trivial⟩⟩⟩) (trivial))⟩
    · replace H := cf H c31
      refine T.exit ?_
      obtain rfl := si H
      exact ⟨_, rfl, (sub_to [] (by decide) rfl rfl (⟨⟨_, rfl, .one .lst⟩, trivial⟩) (trivial))⟩
  · intro v29 s hR hS
    subst hR
    have H := exg HO28
    refine T.sub hS ?_
    refine T.seq ?_
    refine T.region ?_
    refine RunT.ot0 (x := .lst (List.map eI a0)) rfl rfl rfl rfl (.moveX rfl) ?_
    refine RunT.ot0 (x := .v (.int .i64 (a0.length : Int))) rfl rfl rfl rfl (.lenLm Try.underlying23 rfl rfl) ?_
    refine RunT.ot0 (x := .v (.bool (decide ((a0.length : Int) ≤ 200)))) rfl rfl rfl rfl (.bin rfl rfl (fun w => b_leq w) rfl) ?_
    refine RunT.ot0 (x := .v (.bool (decide ((a0.length : Int) ≤ 200)))) rfl rfl rfl rfl (.assignX rfl) ?_
    refine RunT.nil ?_
    obtain rfl := si H
    refine T.sub (sub_to (st' := ⟨[(4, .v (.bool (decide ((a0.length : Int) ≤ 200))))], [], 8, []⟩) [] (by decide) rfl rfl (⟨⟨_, rfl, .one .v⟩, trivial⟩) (trivial)) ?_
    refine T.ret ?_
    exact RetOk.same [.v (.bool (decide ((a0.length : Int) ≤ 200)))] ⟨rfl, trivial⟩ rfl rfl rfl
set_option maxHeartbeats 4000000 in
theorem ref2_poles_pc (al : Bool) (k : Nat) (a0 : (List Pole)) (o : Bool) (H : ref2_poles k a0 = some o) : PC Try.prog al 135 [.lst (List.map ePole a0)] (.v (.bool o)) := by
  unfold ref2_poles at H
  refine PC.of_T Try.func135 rfl rfl (n := 38) rfl rfl (.inr rfl) ?_
  intro base B w0
  refine T.st (st' := ⟨[(0, .lst (List.map ePole a0))], [], 0, []⟩) rfl ?_
  refine T.seq ?_
  refine T.region ?_
  refine RunT.ot0 (x := .v (.bool false)) rfl rfl rfl rfl (.assignX rfl) ?_
  refine RunT.nil ?_
  refine T.seq ?_
  refine T.seq ?_
  refine T.region ?_
  refine RunT.ot0 (x := .v (.int .i64 0)) rfl rfl rfl rfl (.assignX rfl) ?_
  refine RunT.nil ?_
  obtain ⟨o34, E35, HO36⟩ := bs H
  refine T.cutPE (fun v37 => o34 = .go v37) (fun v37 => ⟨[(0, .lst (List.map ePole a0))], [], 8, []⟩) ?_ ?_
  · have H := E35
    refine T.block ?_
    refine T.loopS (fun n s => ∃ (v38 : Int), ref2_poles_l0 k a0 n v38 = some o34 ∧ s = ⟨[(0, .lst (List.map ePole a0)), (3, .v (.int .i64 v38))], [], 8, []⟩) k ⟨_, ⟨0, H, rfl⟩, sub_to [] (by decide) rfl rfl (⟨⟨_, rfl, .one .lst⟩, ⟨⟨_, rfl, .one .v⟩, trivial⟩⟩) (trivial)⟩ ?_
    rintro n s ⟨v38, H, rfl⟩
    rcases n with _ | n
    · cases (show none = some _ from H)
    rw [ref2_poles_l0] at H
    refine T.seq ?_
    refine T.seq ?_
    refine T.region ?_
    refine RunT.ot0 (x := .v (.int .i64 v38)) rfl rfl rfl rfl (.moveX rfl) ?_
    refine RunT.ot0 (x := .lst (List.map ePole a0)) rfl rfl rfl rfl (.moveX rfl) ?_
    refine RunT.ot0 (x := .v (.int .i64 (a0.length : Int))) rfl rfl rfl rfl (.lenLm Try.underlying24 rfl rfl) ?_
    refine RunT.ot0 (x := .v (.bool (decide (v38 < (a0.length : Int))))) rfl rfl rfl rfl (.bin rfl rfl (fun w => b_lss w) rfl) ?_
    refine RunT.nil ?_
    refine T.cond2 (t := decide (v38 < (a0.length : Int))) rfl (fun c39 => ?_) (fun c39 => ?_)
    · replace H := ct H c39
      refine T.skip ?_
      refine T.seq ?_
      refine T.block ?_
      refine T.seq ?_
      refine T.region ?_
      refine RunT.ot0 (x := .lst (List.map ePole a0)) rfl rfl rfl rfl (.moveX rfl) ?_
      refine RunT.ot0 (x := .v (.int .i64 v38)) rfl rfl rfl rfl (.moveX rfl) ?_
      obtain ⟨y40, h41, H⟩ := bs H
      refine RunT.ot0 (x := .rptr [.v (.int .i64 y40.X), .v (.int .i64 y40.Y), .v (.int .i64 y40.R)]) rfl rfl rfl rfl (.idxLX h41 enc_Pole sl24 rfl rfl rfl) ?_
      refine RunT.ot0 (x := .rptr [.v (.int .i64 y40.X), .v (.int .i64 y40.Y), .v (.int .i64 y40.R)]) rfl rfl rfl rfl (.fieldRX fl60_0 rfl rfl) ?_
      refine RunT.ot0 (x := .v (.int .i64 y40.X)) rfl rfl rfl rfl (.loadR ty3 rfl rfl) ?_
      obtain ⟨r42, h43, H⟩ := bs H
      refine RunT.ot0 (x := .v (.bool r42)) rfl rfl rfl rfl (.callp (ref2_coord_pc false k y40.X r42 h43) rfl ⟨(.one .v), trivial⟩ rfl rfl rfl) ?_
      refine RunT.ot0 (x := .v (.bool (!r42))) rfl rfl rfl rfl (.un rfl (fun w => u_not w) rfl) ?_
      refine RunT.ot0 (x := .v (.bool (!r42))) rfl rfl rfl rfl (.moveX rfl) ?_
      refine RunT.cases (t := 17) (c := !r42) rfl (fun g44 => ?_) (fun g44 => ?_)
      · replace H := ct H g44
        refine RunT.xn rfl rfl rfl (bo g44) rfl rfl ?_
        refine RunT.xn rfl rfl rfl (bo g44) rfl rfl ?_
        refine RunT.xn rfl rfl rfl (bo g44) rfl rfl ?_
        refine RunT.xn rfl rfl rfl (bo g44) rfl rfl ?_
        refine RunT.xn rfl rfl rfl (bo g44) rfl rfl ?_
        refine RunT.xn rfl rfl rfl (bo g44) rfl rfl ?_
        refine RunT.xn rfl rfl rfl (bo g44) rfl rfl ?_
        refine RunT.ot0 (x := .v (.bool true)) rfl rfl rfl rfl (.pickT (bo g44) rfl) ?_
        refine RunT.ot0 (x := .v (.bool true)) rfl rfl rfl rfl (.moveX rfl) ?_
        refine RunT.xn rfl rfl rfl rfl rfl rfl ?_
        refine RunT.xn rfl rfl rfl rfl rfl rfl ?_
        refine RunT.xn rfl rfl rfl rfl rfl rfl ?_
        refine RunT.xn rfl rfl rfl rfl rfl rfl ?_
        refine RunT.xn rfl rfl rfl rfl rfl rfl ?_
        refine RunT.xn rfl rfl rfl rfl rfl rfl ?_
        refine RunT.xn rfl rfl rfl rfl rfl rfl ?_
        refine RunT.ot0 (x := .v (.bool true)) rfl rfl rfl rfl (.pickT rfl rfl) ?_
        refine RunT.nil ?_
        refine T.condT rfl ?_
        refine T.seq ?_
        refine T.sub (sub_pick [] [] (st' := ⟨[], [], 8, []⟩) rfl rfl rfl rfl rfl) ?_
        refine T.region ?_
        refine RunT.ot0 (x := .v (.bool false)) rfl rfl rfl rfl (.assignX rfl) ?_
        refine RunT.nil ?_
        obtain rfl := si H
        have HX := exr HO36
        obtain rfl := si HX
        refine T.sub (sub_to (st' := ⟨[(2, .v (.bool false))], [], 8, []⟩) [] (by decide) rfl rfl (⟨⟨_, rfl, .one .v⟩, trivial⟩) (trivial)) ?_
        refine T.ret ?_
        exact RetOk.same [.v (.bool false)] ⟨rfl, trivial⟩ rfl rfl rfl
      · replace H := cf H g44
        refine RunT.gt0 (x := .lst (List.map ePole a0)) rfl rfl rfl (bo g44) rfl rfl (.moveX rfl) ?_
        refine RunT.gt0 (x := .v (.int .i64 v38)) rfl rfl rfl (bo g44) rfl rfl (.moveX rfl) ?_
        obtain ⟨y45, h46, H⟩ := bs H
        refine RunT.gt0 (x := .rptr [.v (.int .i64 y45.X), .v (.int .i64 y45.Y), .v (.int .i64 y45.R)]) rfl rfl rfl (bo g44) rfl rfl (.idxLX h46 enc_Pole sl24 rfl rfl rfl) ?_
        refine RunT.gt0 (x := .rptr [.v (.int .i64 y45.Y), .v (.int .i64 y45.R)]) rfl rfl rfl (bo g44) rfl rfl (.fieldRX fl60_1 rfl rfl) ?_
        refine RunT.gt0 (x := .v (.int .i64 y45.Y)) rfl rfl rfl (bo g44) rfl rfl (.loadR ty3 rfl rfl) ?_
        obtain ⟨r47, h48, H⟩ := bs H
        refine RunT.gt0 (x := .v (.bool r47)) rfl rfl rfl (bo g44) rfl rfl (.callp (ref2_coord_pc false k y45.Y r47 h48) rfl ⟨(.one .v), trivial⟩ rfl rfl rfl) ?_
        refine RunT.gt0 (x := .v (.bool (!r47))) rfl rfl rfl (bo g44) rfl rfl (.un rfl (fun w => u_not w) rfl) ?_
        refine RunT.ot0 (x := .v (.bool (!r47))) rfl rfl rfl rfl (.pickF (bo g44) rfl) ?_
        refine RunT.ot0 (x := .v (.bool (!r47))) rfl rfl rfl rfl (.moveX rfl) ?_
        refine RunT.cases (t := 26) (c := !r47) rfl (fun g49 => ?_) (fun g49 => ?_)
        · replace H := ct H g49
          refine RunT.xn rfl rfl rfl (bo g49) rfl rfl ?_
          refine RunT.xn rfl rfl rfl (bo g49) rfl rfl ?_
          refine RunT.xn rfl rfl rfl (bo g49) rfl rfl ?_
          refine RunT.xn rfl rfl rfl (bo g49) rfl rfl ?_
          refine RunT.xn rfl rfl rfl (bo g49) rfl rfl ?_
          refine RunT.xn rfl rfl rfl (bo g49) rfl rfl ?_
          refine RunT.xn rfl rfl rfl (bo g49) rfl rfl ?_
          refine RunT.ot0 (x := .v (.bool true)) rfl rfl rfl rfl (.pickT (bo g49) rfl) ?_
          refine RunT.nil ?_
          refine T.condT rfl ?_
          refine T.seq ?_
          refine T.region ?_
          refine RunT.ot0 (x := .v (.bool false)) rfl rfl rfl rfl (.assignX rfl) ?_
          refine RunT.nil ?_
          obtain rfl := si H
          have HX := exr HO36
          obtain rfl := si HX
          refine T.sub (sub_to (st' := ⟨[(2, .v (.bool false))], [], 8, []⟩) [] (by decide) rfl rfl (⟨⟨_, rfl, .one .v⟩, trivial⟩) (trivial)) ?_
          refine T.ret ?_
          exact RetOk.same [.v (.bool false)] ⟨rfl, trivial⟩ rfl rfl rfl
        · replace H := cf H g49
          refine RunT.gt0 (x := .lst (List.map ePole a0)) rfl rfl rfl (bo g49) rfl rfl (.moveX rfl) ?_
          refine RunT.gt0 (x := .v (.int .i64 v38)) rfl rfl rfl (bo g49) rfl rfl (.moveX rfl) ?_
          obtain ⟨y50, h51, H⟩ := bs H
          refine RunT.gt0 (x := .rptr [.v (.int .i64 y50.X), .v (.int .i64 y50.Y), .v (.int .i64 y50.R)]) rfl rfl rfl (bo g49) rfl rfl (.idxLX h51 enc_Pole sl24 rfl rfl rfl) ?_
          refine RunT.gt0 (x := .rptr [.v (.int .i64 y50.R)]) rfl rfl rfl (bo g49) rfl rfl (.fieldRX fl60_2 rfl rfl) ?_
          refine RunT.gt0 (x := .v (.int .i64 y50.R)) rfl rfl rfl (bo g49) rfl rfl (.loadR ty3 rfl rfl) ?_
          obtain ⟨r52, h53, H⟩ := bs H
          refine RunT.gt0 (x := .v (.bool r52)) rfl rfl rfl (bo g49) rfl rfl (.callp (ref2_in_pc false k y50.R 1 1048576 r52 h53) rfl ⟨(.one .v), (.one .v), (.one .v), trivial⟩ rfl rfl rfl) ?_
          refine RunT.gt0 (x := .v (.bool (!r52))) rfl rfl rfl (bo g49) rfl rfl (.un rfl (fun w => u_not w) rfl) ?_
          refine RunT.ot0 (x := .v (.bool (!r52))) rfl rfl rfl rfl (.pickF (bo g49) rfl) ?_
          refine RunT.nil ?_
          refine T.cond2 (t := !r52) rfl (fun c54 => ?_) (fun c54 => ?_)
          · replace H := ct H c54
            refine T.seq ?_
            refine T.sub (sub_pick [] [] (st' := ⟨[], [], 8, []⟩) rfl rfl rfl rfl rfl) ?_
            refine T.region ?_
            refine RunT.ot0 (x := .v (.bool false)) rfl rfl rfl rfl (.assignX rfl) ?_
            refine RunT.nil ?_
            obtain rfl := si H
            have HX := exr HO36
            obtain rfl := si HX
            refine T.sub (sub_to (st' := ⟨[(2, .v (.bool false))], [], 8, []⟩) [] (by decide) rfl rfl (⟨⟨_, rfl, .one .v⟩, trivial⟩) (trivial)) ?_
            refine T.ret ?_
            exact RetOk.same [.v (.bool false)] ⟨rfl, trivial⟩ rfl rfl rfl
          · replace H := cf H c54
            refine T.skip ?_
            refine T.region ?_
            refine RunT.ot0 (x := .v (.int .i64 v38)) rfl rfl rfl rfl (.moveX rfl) ?_
            refine RunT.ot0 (x := .v (.int .i64 (wr (v38 + 1)))) rfl rfl rfl rfl (.bin rfl rfl (fun w => b_addw w) rfl) ?_
            refine RunT.ot0 (x := .v (.int .i64 (wr (v38 + 1)))) rfl rfl rfl rfl (.assignX rfl) ?_
            refine RunT.nil ?_
            exact ⟨n, Nat.lt_succ_self n, _, ⟨wr (v38 + 1), H, rfl⟩, (sub_to [] (by decide) rfl rfl (⟨⟨_, rfl, .one .lst⟩, ⟨⟨_, rfl, .one .v⟩, trivial⟩⟩) (trivial))⟩
    · replace H := cf H c39
      refine T.exit ?_
      obtain rfl := si H
      exact ⟨_, rfl, (sub_to [] (by decide) rfl rfl (⟨⟨_, rfl, .one .lst⟩, trivial⟩) (trivial))⟩
  · intro v37 s hR hS
    subst hR
    have H := exg HO36
    refine T.sub hS ?_
    refine T.seq ?_
    refine T.region ?_
    refine RunT.ot0 (x := .lst (List.map ePole a0)) rfl rfl rfl rfl (.moveX rfl) ?_
    refine RunT.ot0 (x := .v (.int .i64 (a0.length : Int))) rfl rfl rfl rfl (.lenLm Try.underlying24 rfl rfl) ?_
    refine RunT.ot0 (x := .v (.bool (decide ((a0.length : Int) ≤ 200)))) rfl rfl rfl rfl (.bin rfl rfl (fun w => b_leq w) rfl) ?_
    refine RunT.ot0 (x := .v (.bool (decide ((a0.length : Int) ≤ 200)))) rfl rfl rfl rfl (.assignX rfl) ?_
    refine RunT.nil ?_
    obtain rfl := si H
    refine T.sub (sub_to (st' := ⟨[(2, .v (.bool (decide ((a0.length : Int) ≤ 200))))], [], 8, []⟩) [] (by decide) rfl rfl (⟨⟨_, rfl, .one .v⟩, trivial⟩) (trivial)) ?_
    refine T.ret ?_
    exact RetOk.same [.v (.bool (decide ((a0.length : Int) ≤ 200)))] ⟨rfl, trivial⟩ rfl rfl rfl
set_option maxHeartbeats 4000000 in
theorem ref2_Wrong_pc (al : Bool) (k : Nat) (a0 : Venue) (o : ByteArray) (H : ref2_Wrong k a0 = some o) : PC Try.prog al 96 [.agg [.lst (List.map eSeat a0.Seats), .v (.int .i64 a0.Gap), .v (.int .i64 a0.Radius), .lst (List.map eI a0.Kills), .lst (List.map ePole a0.Poles)]] (.v (.string o)) := by
  unfold ref2_Wrong at H
  refine PC.of_T Try.func96 rfl rfl (n := 31) rfl rfl (.inr rfl) ?_
  intro base B w0
  refine T.st (st' := ⟨[(0, .agg [.lst (List.map eSeat a0.Seats), .v (.int .i64 a0.Gap), .v (.int .i64 a0.Radius), .lst (List.map eI a0.Kills), .lst (List.map ePole a0.Poles)])], [], 0, []⟩) rfl ?_
  refine T.seq ?_
  refine T.region ?_
  refine RunT.ot1 (x := .ptr 0 0) (p0 := (0, some (.box [.lst (List.map eSeat a0.Seats), .v (.int .i64 a0.Gap), .v (.int .i64 a0.Radius), .lst (List.map eI a0.Kills), .lst (List.map ePole a0.Poles)]))) (n' := 8) rfl rfl rfl rfl (.boxX rfl rfl rfl) rfl ?_
  refine RunT.ot0 (x := .v (.string (⟨#[]⟩ : ByteArray))) rfl rfl rfl rfl (.assignX rfl) ?_
  refine RunT.nil ?_
  refine T.seq ?_
  refine T.block ?_
  refine T.seq ?_
  refine T.region ?_
  refine RunT.ot0 (x := .ptr 0 0) rfl rfl rfl rfl (.fieldPX fl26_0 rfl rfl) ?_
  refine RunT.ot0 (x := .lst (List.map eSeat a0.Seats)) rfl rfl rfl rfl (.loadP ty22 rfl rfl rfl) ?_
  obtain ⟨r1, h2, H⟩ := bs H
  refine RunT.ot0 (x := .v (.bool r1)) rfl rfl rfl rfl (.callp (ref2_seats_pc false k a0.Seats r1 h2) rfl ⟨(.one .lst), trivial⟩ rfl rfl rfl) ?_
  refine RunT.ot0 (x := .v (.bool (!r1))) rfl rfl rfl rfl (.un rfl (fun w => u_not w) rfl) ?_
  refine RunT.ot0 (x := .v (.bool (!r1))) rfl rfl rfl rfl (.assignX rfl) ?_
  refine RunT.nil ?_
  refine T.cond2 (t := !r1) rfl (fun c3 => ?_) (fun c3 => ?_)
  · replace H := ct H c3
    refine T.seq ?_
    refine T.region ?_
    refine RunT.ot0 (x := .v (.string (⟨#[115, 101, 97, 116, 115]⟩ : ByteArray))) rfl rfl rfl rfl (.assignX rfl) ?_
    refine RunT.nil ?_
    obtain rfl := si H
    refine T.sub (sub_to (st' := ⟨[(2, .v (.string (⟨#[115, 101, 97, 116, 115]⟩ : ByteArray)))], [], 8, []⟩) [] (by decide) rfl rfl (⟨⟨_, rfl, .one .v⟩, trivial⟩) (trivial)) ?_
    refine T.ret ?_
    exact RetOk.same [.v (.string (⟨#[115, 101, 97, 116, 115]⟩ : ByteArray))] ⟨rfl, trivial⟩ rfl rfl rfl
  · replace H := cf H c3
    refine T.seq ?_
    refine T.region ?_
    refine RunT.ot0 (x := .ptr 0 1) rfl rfl rfl rfl (.fieldPX fl26_1 rfl rfl) ?_
    refine RunT.ot0 (x := .v (.int .i64 a0.Gap)) rfl rfl rfl rfl (.loadP ty3 rfl rfl rfl) ?_
    obtain ⟨r4, h5, H⟩ := bs H
    refine RunT.ot0 (x := .v (.bool r4)) rfl rfl rfl rfl (.callp (ref2_in_pc false k a0.Gap 1 1048576 r4 h5) rfl ⟨(.one .v), (.one .v), (.one .v), trivial⟩ rfl rfl rfl) ?_
    refine RunT.ot0 (x := .v (.bool (!r4))) rfl rfl rfl rfl (.un rfl (fun w => u_not w) rfl) ?_
    refine RunT.ot0 (x := .v (.bool (!r4))) rfl rfl rfl rfl (.assignX rfl) ?_
    refine RunT.nil ?_
    refine T.cond2 (t := !r4) rfl (fun c6 => ?_) (fun c6 => ?_)
    · replace H := ct H c6
      refine T.seq ?_
      refine T.region ?_
      refine RunT.ot0 (x := .v (.string (⟨#[103, 97, 112]⟩ : ByteArray))) rfl rfl rfl rfl (.assignX rfl) ?_
      refine RunT.nil ?_
      obtain rfl := si H
      refine T.sub (sub_to (st' := ⟨[(2, .v (.string (⟨#[103, 97, 112]⟩ : ByteArray)))], [], 8, []⟩) [] (by decide) rfl rfl (⟨⟨_, rfl, .one .v⟩, trivial⟩) (trivial)) ?_
      refine T.ret ?_
      exact RetOk.same [.v (.string (⟨#[103, 97, 112]⟩ : ByteArray))] ⟨rfl, trivial⟩ rfl rfl rfl
    · replace H := cf H c6
      refine T.seq ?_
      refine T.region ?_
      refine RunT.ot0 (x := .ptr 0 2) rfl rfl rfl rfl (.fieldPX fl26_2 rfl rfl) ?_
      refine RunT.ot0 (x := .v (.int .i64 a0.Radius)) rfl rfl rfl rfl (.loadP ty3 rfl rfl rfl) ?_
      obtain ⟨r7, h8, H⟩ := bs H
      refine RunT.ot0 (x := .v (.bool r7)) rfl rfl rfl rfl (.callp (ref2_in_pc false k a0.Radius 0 1048576 r7 h8) rfl ⟨(.one .v), (.one .v), (.one .v), trivial⟩ rfl rfl rfl) ?_
      refine RunT.ot0 (x := .v (.bool (!r7))) rfl rfl rfl rfl (.un rfl (fun w => u_not w) rfl) ?_
      refine RunT.ot0 (x := .v (.bool (!r7))) rfl rfl rfl rfl (.assignX rfl) ?_
      refine RunT.nil ?_
      refine T.cond2 (t := !r7) rfl (fun c9 => ?_) (fun c9 => ?_)
      · replace H := ct H c9
        refine T.seq ?_
        refine T.sub (sub_pick [] [] (st' := ⟨[], [], 8, []⟩) rfl rfl rfl rfl rfl) ?_
        refine T.region ?_
        refine RunT.ot0 (x := .v (.string (⟨#[114, 97, 100, 105, 117, 115]⟩ : ByteArray))) rfl rfl rfl rfl (.assignX rfl) ?_
        refine RunT.nil ?_
        obtain rfl := si H
        refine T.sub (sub_to (st' := ⟨[(2, .v (.string (⟨#[114, 97, 100, 105, 117, 115]⟩ : ByteArray)))], [], 8, []⟩) [] (by decide) rfl rfl (⟨⟨_, rfl, .one .v⟩, trivial⟩) (trivial)) ?_
        refine T.ret ?_
        exact RetOk.same [.v (.string (⟨#[114, 97, 100, 105, 117, 115]⟩ : ByteArray))] ⟨rfl, trivial⟩ rfl rfl rfl
      · replace H := cf H c9
        refine T.seq ?_
        refine T.region ?_
        refine RunT.ot0 (x := .ptr 0 3) rfl rfl rfl rfl (.fieldPX fl26_3 rfl rfl) ?_
        refine RunT.ot0 (x := .lst (List.map eI a0.Kills)) rfl rfl rfl rfl (.loadP ty23 rfl rfl rfl) ?_
        refine RunT.ot0 (x := .ptr 0 0) rfl rfl rfl rfl (.fieldPX fl26_0 rfl rfl) ?_
        refine RunT.ot0 (x := .lst (List.map eSeat a0.Seats)) rfl rfl rfl rfl (.loadP ty22 rfl rfl rfl) ?_
        refine RunT.ot0 (x := .v (.int .i64 (a0.Seats.length : Int))) rfl rfl rfl rfl (.lenLm Try.underlying22 rfl rfl) ?_
        obtain ⟨r10, h11, H⟩ := bs H
        refine RunT.ot0 (x := .v (.bool r10)) rfl rfl rfl rfl (.callp (ref2_kills_pc false k a0.Kills (a0.Seats.length : Int) r10 h11) rfl ⟨(.one .lst), (.one .v), trivial⟩ rfl rfl rfl) ?_
        refine RunT.ot0 (x := .v (.bool (!r10))) rfl rfl rfl rfl (.un rfl (fun w => u_not w) rfl) ?_
        refine RunT.ot0 (x := .v (.bool (!r10))) rfl rfl rfl rfl (.assignX rfl) ?_
        refine RunT.nil ?_
        refine T.cond2 (t := !r10) rfl (fun c12 => ?_) (fun c12 => ?_)
        · replace H := ct H c12
          refine T.seq ?_
          refine T.region ?_
          refine RunT.ot0 (x := .v (.string (⟨#[107, 105, 108, 108, 115]⟩ : ByteArray))) rfl rfl rfl rfl (.assignX rfl) ?_
          refine RunT.nil ?_
          obtain rfl := si H
          refine T.sub (sub_to (st' := ⟨[(2, .v (.string (⟨#[107, 105, 108, 108, 115]⟩ : ByteArray)))], [], 8, []⟩) [] (by decide) rfl rfl (⟨⟨_, rfl, .one .v⟩, trivial⟩) (trivial)) ?_
          refine T.ret ?_
          exact RetOk.same [.v (.string (⟨#[107, 105, 108, 108, 115]⟩ : ByteArray))] ⟨rfl, trivial⟩ rfl rfl rfl
        · replace H := cf H c12
          refine T.seq ?_
          refine T.region ?_
          refine RunT.ot0 (x := .ptr 0 4) rfl rfl rfl rfl (.fieldPX fl26_4 rfl rfl) ?_
          refine RunT.ot0 (x := .lst (List.map ePole a0.Poles)) rfl rfl rfl rfl (.loadP ty24 rfl rfl rfl) ?_
          obtain ⟨r13, h14, H⟩ := bs H
          refine RunT.ot0 (x := .v (.bool r13)) rfl rfl rfl rfl (.callp (ref2_poles_pc false k a0.Poles r13 h14) rfl ⟨(.one .lst), trivial⟩ rfl rfl rfl) ?_
          refine RunT.ot0 (x := .v (.bool (!r13))) rfl rfl rfl rfl (.un rfl (fun w => u_not w) rfl) ?_
          refine RunT.ot0 (x := .v (.bool (!r13))) rfl rfl rfl rfl (.assignX rfl) ?_
          refine RunT.nil ?_
          refine T.cond2 (t := !r13) rfl (fun c15 => ?_) (fun c15 => ?_)
          · replace H := ct H c15
            refine T.seq ?_
            refine T.region ?_
            refine RunT.ot0 (x := .v (.string (⟨#[112, 111, 108, 101, 115]⟩ : ByteArray))) rfl rfl rfl rfl (.assignX rfl) ?_
            refine RunT.nil ?_
            obtain rfl := si H
            refine T.sub (sub_to (st' := ⟨[(2, .v (.string (⟨#[112, 111, 108, 101, 115]⟩ : ByteArray)))], [], 8, []⟩) [] (by decide) rfl rfl (⟨⟨_, rfl, .one .v⟩, trivial⟩) (trivial)) ?_
            refine T.ret ?_
            exact RetOk.same [.v (.string (⟨#[112, 111, 108, 101, 115]⟩ : ByteArray))] ⟨rfl, trivial⟩ rfl rfl rfl
          · replace H := cf H c15
            refine T.skip ?_
            refine T.seq ?_
            refine T.sub (sub_pick [] [] (st' := ⟨[], [], 8, []⟩) rfl rfl rfl rfl rfl) ?_
            refine T.region ?_
            refine RunT.ot0 (x := .v (.string (⟨#[]⟩ : ByteArray))) rfl rfl rfl rfl (.assignX rfl) ?_
            refine RunT.nil ?_
            obtain rfl := si H
            refine T.sub (sub_to (st' := ⟨[(2, .v (.string (⟨#[]⟩ : ByteArray)))], [], 8, []⟩) [] (by decide) rfl rfl (⟨⟨_, rfl, .one .v⟩, trivial⟩) (trivial)) ?_
            refine T.ret ?_
            exact RetOk.same [.v (.string (⟨#[]⟩ : ByteArray))] ⟨rfl, trivial⟩ rfl rfl rfl
set_option maxHeartbeats 4000000 in
theorem ref2_May_pc (al : Bool) (k : Nat) (a0 : Venue) (o : Bool) (H : ref2_May k a0 = some o) : PC Try.prog al 38 [.agg [.lst (List.map eSeat a0.Seats), .v (.int .i64 a0.Gap), .v (.int .i64 a0.Radius), .lst (List.map eI a0.Kills), .lst (List.map ePole a0.Poles)]] (.v (.bool o)) := by
  unfold ref2_May at H
  refine PC.of_T Try.func38 rfl rfl (n := 6) rfl rfl (.inr rfl) ?_
  intro base B w0
  refine T.st (st' := ⟨[(0, .agg [.lst (List.map eSeat a0.Seats), .v (.int .i64 a0.Gap), .v (.int .i64 a0.Radius), .lst (List.map eI a0.Kills), .lst (List.map ePole a0.Poles)])], [], 0, []⟩) rfl ?_
  refine T.seq ?_
  refine T.region ?_
  refine RunT.ot1 (x := .ptr 0 0) (p0 := (0, some (.box [.lst (List.map eSeat a0.Seats), .v (.int .i64 a0.Gap), .v (.int .i64 a0.Radius), .lst (List.map eI a0.Kills), .lst (List.map ePole a0.Poles)]))) (n' := 8) rfl rfl rfl rfl (.boxX rfl rfl rfl) rfl ?_
  refine RunT.ot0 (x := .v (.bool false)) rfl rfl rfl rfl (.assignX rfl) ?_
  refine RunT.nil ?_
  refine T.seq ?_
  refine T.region ?_
  refine RunT.ot0 (x := .agg [.lst (List.map eSeat a0.Seats), .v (.int .i64 a0.Gap), .v (.int .i64 a0.Radius), .lst (List.map eI a0.Kills), .lst (List.map ePole a0.Poles)]) rfl rfl rfl rfl (.loadP ty26 rfl rfl rfl) ?_
  obtain ⟨r1, h2, H⟩ := bs H
  refine RunT.ot0 (x := .v (.string r1)) rfl rfl rfl rfl (.callp (ref2_Wrong_pc false k a0 r1 h2) rfl ⟨(.agg' ⟨.lst, .v, .v, .lst, .lst, trivial⟩), trivial⟩ rfl rfl rfl) ?_
  refine RunT.ot0 (x := .v (.bool (r1 == (⟨#[]⟩ : ByteArray)))) rfl rfl rfl rfl (.bin rfl rfl (fun w => eqStr w) rfl) ?_
  refine RunT.ot0 (x := .v (.bool (r1 == (⟨#[]⟩ : ByteArray)))) rfl rfl rfl rfl (.assignX rfl) ?_
  refine RunT.nil ?_
  obtain rfl := si H
  refine T.sub (sub_to (st' := ⟨[(2, .v (.bool (r1 == (⟨#[]⟩ : ByteArray))))], [], 8, []⟩) [] (by decide) rfl rfl (⟨⟨_, rfl, .one .v⟩, trivial⟩) (trivial)) ?_
  refine T.ret ?_
  exact RetOk.same [.v (.bool (r1 == (⟨#[]⟩ : ByteArray)))] ⟨rfl, trivial⟩ rfl rfl rfl
set_option maxHeartbeats 4000000 in
theorem ref6_seat_pc (al : Bool) (k : Nat) (a0 : Venue) (a1 : Int) (o : Bool) (H : ref6_seat k a0 a1 = some o) : PC Try.prog al 106 [.agg [.lst (List.map eSeat a0.Seats), .v (.int .i64 a0.Gap), .v (.int .i64 a0.Radius), .lst (List.map eI a0.Kills), .lst (List.map ePole a0.Poles)], .v (.int .i64 a1)] (.v (.bool o)) := by
  unfold ref6_seat at H
  refine PC.of_T Try.func106 rfl rfl (n := 14) rfl rfl (.inr rfl) ?_
  intro base B w0
  refine T.st (st' := ⟨[(0, .agg [.lst (List.map eSeat a0.Seats), .v (.int .i64 a0.Gap), .v (.int .i64 a0.Radius), .lst (List.map eI a0.Kills), .lst (List.map ePole a0.Poles)]), (1, .v (.int .i64 a1))], [], 0, []⟩) rfl ?_
  refine T.seq ?_
  refine T.region ?_
  refine RunT.ot1 (x := .ptr 0 0) (p0 := (0, some (.box [.lst (List.map eSeat a0.Seats), .v (.int .i64 a0.Gap), .v (.int .i64 a0.Radius), .lst (List.map eI a0.Kills), .lst (List.map ePole a0.Poles)]))) (n' := 8) rfl rfl rfl rfl (.boxX rfl rfl rfl) rfl ?_
  refine RunT.ot0 (x := .v (.bool false)) rfl rfl rfl rfl (.assignX rfl) ?_
  refine RunT.nil ?_
  refine T.seq ?_
  refine T.region ?_
  refine RunT.ot0 (x := .v (.int .i64 a1)) rfl rfl rfl rfl (.moveX rfl) ?_
  refine RunT.ot0 (x := .v (.bool (decide (0 ≤ a1)))) rfl rfl rfl rfl (.bin rfl rfl (fun w => b_geq w) rfl) ?_
  refine RunT.ot0 (x := .v (.bool (decide (0 ≤ a1)))) rfl rfl rfl rfl (.moveX rfl) ?_
  refine RunT.cases (t := 7) (c := decide (0 ≤ a1)) rfl (fun g1 => ?_) (fun g1 => ?_)
  · replace H := ct H g1
    refine RunT.gt0 (x := .v (.int .i64 a1)) rfl rfl rfl (bo g1) rfl rfl (.moveX rfl) ?_
    refine RunT.gt0 (x := .ptr 0 0) rfl rfl rfl (bo g1) rfl rfl (.fieldPX fl26_0 rfl rfl) ?_
    refine RunT.gt0 (x := .lst (List.map eSeat a0.Seats)) rfl rfl rfl (bo g1) rfl rfl (.loadP ty22 rfl rfl rfl) ?_
    refine RunT.gt0 (x := .v (.int .i64 (a0.Seats.length : Int))) rfl rfl rfl (bo g1) rfl rfl (.lenLm Try.underlying22 rfl rfl) ?_
    refine RunT.gt0 (x := .v (.bool (decide (a1 < (a0.Seats.length : Int))))) rfl rfl rfl (bo g1) rfl rfl (.bin rfl rfl (fun w => b_lss w) rfl) ?_
    refine RunT.ot0 (x := .v (.bool (decide (a1 < (a0.Seats.length : Int))))) rfl rfl rfl rfl (.pickT (bo g1) rfl) ?_
    refine RunT.ot0 (x := .v (.bool (decide (a1 < (a0.Seats.length : Int))))) rfl rfl rfl rfl (.assignX rfl) ?_
    refine RunT.nil ?_
    obtain rfl := si H
    refine T.sub (sub_to (st' := ⟨[(4, .v (.bool (decide (a1 < (a0.Seats.length : Int)))))], [], 8, []⟩) [] (by decide) rfl rfl (⟨⟨_, rfl, .one .v⟩, trivial⟩) (trivial)) ?_
    refine T.ret ?_
    exact RetOk.same [.v (.bool (decide (a1 < (a0.Seats.length : Int))))] ⟨rfl, trivial⟩ rfl rfl rfl
  · replace H := cf H g1
    refine RunT.xn rfl rfl rfl (bo g1) rfl rfl ?_
    refine RunT.xn rfl rfl rfl (bo g1) rfl rfl ?_
    refine RunT.xn rfl rfl rfl (bo g1) rfl rfl ?_
    refine RunT.xn rfl rfl rfl (bo g1) rfl rfl ?_
    refine RunT.xn rfl rfl rfl (bo g1) rfl rfl ?_
    refine RunT.ot0 (x := .v (.bool false)) rfl rfl rfl rfl (.pickF (bo g1) rfl) ?_
    refine RunT.ot0 (x := .v (.bool false)) rfl rfl rfl rfl (.assignX rfl) ?_
    refine RunT.nil ?_
    obtain rfl := si H
    refine T.sub (sub_to (st' := ⟨[(4, .v (.bool false))], [], 8, []⟩) [] (by decide) rfl rfl (⟨⟨_, rfl, .one .v⟩, trivial⟩) (trivial)) ?_
    refine T.ret ?_
    exact RetOk.same [.v (.bool false)] ⟨rfl, trivial⟩ rfl rfl rfl
set_option maxHeartbeats 4000000 in
theorem ref6_next_pc (al : Bool) (k : Nat) (a0 : Venue) (a1 : Int) (o : Bool) (H : ref6_next k a0 a1 = some o) : PC Try.prog al 100 [.agg [.lst (List.map eSeat a0.Seats), .v (.int .i64 a0.Gap), .v (.int .i64 a0.Radius), .lst (List.map eI a0.Kills), .lst (List.map ePole a0.Poles)], .v (.int .i64 a1)] (.v (.bool o)) := by
  unfold ref6_next at H
  refine PC.of_T Try.func100 rfl rfl (n := 49) rfl rfl (.inr rfl) ?_
  intro base B w0
  refine T.st (st' := ⟨[(0, .agg [.lst (List.map eSeat a0.Seats), .v (.int .i64 a0.Gap), .v (.int .i64 a0.Radius), .lst (List.map eI a0.Kills), .lst (List.map ePole a0.Poles)]), (1, .v (.int .i64 a1))], [], 0, []⟩) rfl ?_
  refine T.seq ?_
  refine T.region ?_
  refine RunT.ot1 (x := .ptr 0 0) (p0 := (0, some (.box [.lst (List.map eSeat a0.Seats), .v (.int .i64 a0.Gap), .v (.int .i64 a0.Radius), .lst (List.map eI a0.Kills), .lst (List.map ePole a0.Poles)]))) (n' := 8) rfl rfl rfl rfl (.boxX rfl rfl rfl) rfl ?_
  refine RunT.ot0 (x := .v (.bool false)) rfl rfl rfl rfl (.assignX rfl) ?_
  refine RunT.nil ?_
  refine T.seq ?_
  refine T.draw (wr := []) mixed rfl rfl ?_ rfl
  refine RunD.ot0 (x := .agg [.lst (List.map eSeat a0.Seats), .v (.int .i64 a0.Gap), .v (.int .i64 a0.Radius), .lst (List.map eI a0.Kills), .lst (List.map ePole a0.Poles)]) rfl rfl rfl rfl (.loadP ty26 rfl rfl rfl) rfl ?_
  refine RunD.ot0 (x := .v (.int .i64 a1)) rfl rfl rfl rfl (.moveX rfl) rfl ?_
  obtain ⟨r16, h17, H⟩ := bs H
  refine RunD.ot0 (x := .v (.bool r16)) rfl rfl rfl rfl (.callp (ref6_seat_pc false k a0 a1 r16 h17) rfl ⟨(.agg' ⟨.lst, .v, .v, .lst, .lst, trivial⟩), (.one .v), trivial⟩ rfl rfl rfl) rfl ?_
  refine RunD.ot0 (x := .v (.bool r16)) rfl rfl rfl rfl (.moveX rfl) rfl ?_
  refine RunD.cases (t := 8) (c := r16) rfl (fun g18 => ?_) (fun g18 => ?_)
  · replace H := ct H g18
    refine RunD.gt0 (x := .agg [.lst (List.map eSeat a0.Seats), .v (.int .i64 a0.Gap), .v (.int .i64 a0.Radius), .lst (List.map eI a0.Kills), .lst (List.map ePole a0.Poles)]) rfl rfl rfl (bo g18) rfl rfl (.loadP ty26 rfl rfl rfl) rfl ?_
    refine RunD.gt0 (x := .v (.int .i64 a1)) rfl rfl rfl (bo g18) rfl rfl (.moveX rfl) rfl ?_
    refine RunD.gt0 (x := .v (.int .i64 (wr (a1 + 1)))) rfl rfl rfl (bo g18) rfl rfl (.bin rfl rfl (fun w => b_addw w) rfl) rfl ?_
    obtain ⟨r19, h20, H⟩ := bs H
    refine RunD.gt0 (x := .v (.bool r19)) rfl rfl rfl (bo g18) rfl rfl (.callp (ref6_seat_pc false k a0 (wr (a1 + 1)) r19 h20) rfl ⟨(.agg' ⟨.lst, .v, .v, .lst, .lst, trivial⟩), (.one .v), trivial⟩ rfl rfl rfl) rfl ?_
    refine RunD.ot0 (x := .v (.bool r19)) rfl rfl rfl rfl (.pickT (bo g18) rfl) rfl ?_
    refine RunD.ot0 (x := .v (.bool r19)) rfl rfl rfl rfl (.moveX rfl) rfl ?_
    refine RunD.cases (t := 14) (c := r19) rfl (fun g21 => ?_) (fun g21 => ?_)
    · replace H := ct H g21
      refine RunD.gt0 (x := .ptr 0 0) rfl rfl rfl (bo g21) rfl rfl (.fieldPX fl26_0 rfl rfl) rfl ?_
      refine RunD.gt0 (x := .lst (List.map eSeat a0.Seats)) rfl rfl rfl (bo g21) rfl rfl (.loadP ty22 rfl rfl rfl) rfl ?_
      refine RunD.gt0 (x := .v (.int .i64 a1)) rfl rfl rfl (bo g21) rfl rfl (.moveX rfl) rfl ?_
      obtain ⟨y22, h23, H⟩ := bs H
      refine RunD.gt0 (x := .rptr [.v (.int .i64 y22.Row), .v (.int .i64 y22.X), .v (.int .i64 y22.Y), .v (.int .i64 y22.Kind)]) rfl rfl rfl (bo g21) rfl rfl (.idxLX h23 enc_Seat sl22 rfl rfl rfl) rfl ?_
      refine RunD.gt0 (x := .rptr [.v (.int .i64 y22.Row), .v (.int .i64 y22.X), .v (.int .i64 y22.Y), .v (.int .i64 y22.Kind)]) rfl rfl rfl (bo g21) rfl rfl (.fieldRX fl28_0 rfl rfl) rfl ?_
      refine RunD.gt0 (x := .v (.int .i64 y22.Row)) rfl rfl rfl (bo g21) rfl rfl (.loadR ty3 rfl rfl) rfl ?_
      refine RunD.gt0 (x := .ptr 0 0) rfl rfl rfl (bo g21) rfl rfl (.fieldPX fl26_0 rfl rfl) rfl ?_
      refine RunD.gt0 (x := .lst (List.map eSeat a0.Seats)) rfl rfl rfl (bo g21) rfl rfl (.loadP ty22 rfl rfl rfl) rfl ?_
      refine RunD.gt0 (x := .v (.int .i64 a1)) rfl rfl rfl (bo g21) rfl rfl (.moveX rfl) rfl ?_
      refine RunD.gt0 (x := .v (.int .i64 (wr (a1 + 1)))) rfl rfl rfl (bo g21) rfl rfl (.bin rfl rfl (fun w => b_addw w) rfl) rfl ?_
      obtain ⟨y24, h25, H⟩ := bs H
      refine RunD.gt0 (x := .rptr [.v (.int .i64 y24.Row), .v (.int .i64 y24.X), .v (.int .i64 y24.Y), .v (.int .i64 y24.Kind)]) rfl rfl rfl (bo g21) rfl rfl (.idxLX h25 enc_Seat sl22 rfl rfl rfl) rfl ?_
      refine RunD.gt0 (x := .rptr [.v (.int .i64 y24.Row), .v (.int .i64 y24.X), .v (.int .i64 y24.Y), .v (.int .i64 y24.Kind)]) rfl rfl rfl (bo g21) rfl rfl (.fieldRX fl28_0 rfl rfl) rfl ?_
      refine RunD.gt0 (x := .v (.int .i64 y24.Row)) rfl rfl rfl (bo g21) rfl rfl (.loadR ty3 rfl rfl) rfl ?_
      refine RunD.gt0 (x := .v (.bool (decide (y22.Row = y24.Row)))) rfl rfl rfl (bo g21) rfl rfl (.bin rfl rfl (fun w => b_eql w) rfl) rfl ?_
      refine RunD.ot0 (x := .v (.bool (decide (y22.Row = y24.Row)))) rfl rfl rfl rfl (.pickT (bo g21) rfl) rfl ?_
      refine RunD.ot0 (x := .v (.bool (decide (y22.Row = y24.Row)))) rfl rfl rfl rfl (.moveX rfl) rfl ?_
      refine RunD.cases (t := 30) (c := decide (y22.Row = y24.Row)) rfl (fun g26 => ?_) (fun g26 => ?_)
      · replace H := ct H g26
        refine RunD.gt0 (x := .ptr 0 0) rfl rfl rfl (bo g26) rfl rfl (.fieldPX fl26_0 rfl rfl) rfl ?_
        refine RunD.gt0 (x := .lst (List.map eSeat a0.Seats)) rfl rfl rfl (bo g26) rfl rfl (.loadP ty22 rfl rfl rfl) rfl ?_
        refine RunD.gt0 (x := .v (.int .i64 a1)) rfl rfl rfl (bo g26) rfl rfl (.moveX rfl) rfl ?_
        refine RunD.gt0 (x := .v (.int .i64 (wr (a1 + 1)))) rfl rfl rfl (bo g26) rfl rfl (.bin rfl rfl (fun w => b_addw w) rfl) rfl ?_
        obtain ⟨y27, h28, H⟩ := bs H
        refine RunD.gt0 (x := .rptr [.v (.int .i64 y27.Row), .v (.int .i64 y27.X), .v (.int .i64 y27.Y), .v (.int .i64 y27.Kind)]) rfl rfl rfl (bo g26) rfl rfl (.idxLX h28 enc_Seat sl22 rfl rfl rfl) rfl ?_
        refine RunD.gt0 (x := .rptr [.v (.int .i64 y27.X), .v (.int .i64 y27.Y), .v (.int .i64 y27.Kind)]) rfl rfl rfl (bo g26) rfl rfl (.fieldRX fl28_1 rfl rfl) rfl ?_
        refine RunD.gt0 (x := .v (.int .i64 y27.X)) rfl rfl rfl (bo g26) rfl rfl (.loadR ty3 rfl rfl) rfl ?_
        refine RunD.gt0 (x := .ptr 0 0) rfl rfl rfl (bo g26) rfl rfl (.fieldPX fl26_0 rfl rfl) rfl ?_
        refine RunD.gt0 (x := .lst (List.map eSeat a0.Seats)) rfl rfl rfl (bo g26) rfl rfl (.loadP ty22 rfl rfl rfl) rfl ?_
        refine RunD.gt0 (x := .v (.int .i64 a1)) rfl rfl rfl (bo g26) rfl rfl (.moveX rfl) rfl ?_
        obtain ⟨y29, h30, H⟩ := bs H
        refine RunD.gt0 (x := .rptr [.v (.int .i64 y29.Row), .v (.int .i64 y29.X), .v (.int .i64 y29.Y), .v (.int .i64 y29.Kind)]) rfl rfl rfl (bo g26) rfl rfl (.idxLX h30 enc_Seat sl22 rfl rfl rfl) rfl ?_
        refine RunD.gt0 (x := .rptr [.v (.int .i64 y29.X), .v (.int .i64 y29.Y), .v (.int .i64 y29.Kind)]) rfl rfl rfl (bo g26) rfl rfl (.fieldRX fl28_1 rfl rfl) rfl ?_
        refine RunD.gt0 (x := .v (.int .i64 y29.X)) rfl rfl rfl (bo g26) rfl rfl (.loadR ty3 rfl rfl) rfl ?_
        refine RunD.gt0 (x := .v (.int .i64 (wr (y27.X - y29.X)))) rfl rfl rfl (bo g26) rfl rfl (.bin rfl rfl (fun w => b_subw w) rfl) rfl ?_
        refine RunD.gt0 (x := .ptr 0 1) rfl rfl rfl (bo g26) rfl rfl (.fieldPX fl26_1 rfl rfl) rfl ?_
        refine RunD.gt0 (x := .v (.int .i64 a0.Gap)) rfl rfl rfl (bo g26) rfl rfl (.loadP ty3 rfl rfl rfl) rfl ?_
        refine RunD.gt0 (x := .v (.bool (decide ((wr (y27.X - y29.X)) ≤ a0.Gap)))) rfl rfl rfl (bo g26) rfl rfl (.bin rfl rfl (fun w => b_leq w) rfl) rfl ?_
        refine RunD.ot0 (x := .v (.bool (decide ((wr (y27.X - y29.X)) ≤ a0.Gap)))) rfl rfl rfl rfl (.pickT (bo g26) rfl) rfl ?_
        refine RunD.ot0 (x := .v (.bool (decide ((wr (y27.X - y29.X)) ≤ a0.Gap)))) rfl rfl rfl rfl (.assignX rfl) rfl ?_
        refine RunD.nil (by kernel_rfl) ⟨rfl, rfl, ?_⟩
        obtain rfl := si H
        refine T.sub (sub_to (st' := ⟨[(4, .v (.bool (decide ((wr (y27.X - y29.X)) ≤ a0.Gap))))], [], 8, []⟩) [] (by decide) rfl rfl (⟨⟨_, rfl, .one .v⟩, trivial⟩) (trivial)) ?_
        refine T.ret ?_
        exact RetOk.same [.v (.bool (decide ((wr (y27.X - y29.X)) ≤ a0.Gap)))] ⟨rfl, trivial⟩ rfl rfl rfl
      · replace H := cf H g26
        refine RunD.xn rfl rfl rfl (bo g26) rfl rfl ?_
        refine RunD.xn rfl rfl rfl (bo g26) rfl rfl ?_
        refine RunD.xn rfl rfl rfl (bo g26) rfl rfl ?_
        refine RunD.xn rfl rfl rfl (bo g26) rfl rfl ?_
        refine RunD.xn rfl rfl rfl (bo g26) rfl rfl ?_
        refine RunD.xn rfl rfl rfl (bo g26) rfl rfl ?_
        refine RunD.xn rfl rfl rfl (bo g26) rfl rfl ?_
        refine RunD.xn rfl rfl rfl (bo g26) rfl rfl ?_
        refine RunD.xn rfl rfl rfl (bo g26) rfl rfl ?_
        refine RunD.xn rfl rfl rfl (bo g26) rfl rfl ?_
        refine RunD.xn rfl rfl rfl (bo g26) rfl rfl ?_
        refine RunD.xn rfl rfl rfl (bo g26) rfl rfl ?_
        refine RunD.xn rfl rfl rfl (bo g26) rfl rfl ?_
        refine RunD.xn rfl rfl rfl (bo g26) rfl rfl ?_
        refine RunD.xn rfl rfl rfl (bo g26) rfl rfl ?_
        refine RunD.xn rfl rfl rfl (bo g26) rfl rfl ?_
        refine RunD.xn rfl rfl rfl (bo g26) rfl rfl ?_
        refine RunD.ot0 (x := .v (.bool false)) rfl rfl rfl rfl (.pickF (bo g26) rfl) rfl ?_
        refine RunD.ot0 (x := .v (.bool false)) rfl rfl rfl rfl (.assignX rfl) rfl ?_
        refine RunD.nil (by kernel_rfl) ⟨rfl, rfl, ?_⟩
        obtain rfl := si H
        refine T.sub (sub_to (st' := ⟨[(4, .v (.bool false))], [], 8, []⟩) [] (by decide) rfl rfl (⟨⟨_, rfl, .one .v⟩, trivial⟩) (trivial)) ?_
        refine T.ret ?_
        exact RetOk.same [.v (.bool false)] ⟨rfl, trivial⟩ rfl rfl rfl
    · replace H := cf H g21
      refine RunD.xn rfl rfl rfl (bo g21) rfl rfl ?_
      refine RunD.xn rfl rfl rfl (bo g21) rfl rfl ?_
      refine RunD.xn rfl rfl rfl (bo g21) rfl rfl ?_
      refine RunD.xn rfl rfl rfl (bo g21) rfl rfl ?_
      refine RunD.xn rfl rfl rfl (bo g21) rfl rfl ?_
      refine RunD.xn rfl rfl rfl (bo g21) rfl rfl ?_
      refine RunD.xn rfl rfl rfl (bo g21) rfl rfl ?_
      refine RunD.xn rfl rfl rfl (bo g21) rfl rfl ?_
      refine RunD.xn rfl rfl rfl (bo g21) rfl rfl ?_
      refine RunD.xn rfl rfl rfl (bo g21) rfl rfl ?_
      refine RunD.xn rfl rfl rfl (bo g21) rfl rfl ?_
      refine RunD.xn rfl rfl rfl (bo g21) rfl rfl ?_
      refine RunD.xn rfl rfl rfl (bo g21) rfl rfl ?_
      refine RunD.xn rfl rfl rfl (bo g21) rfl rfl ?_
      refine RunD.ot0 (x := .v (.bool false)) rfl rfl rfl rfl (.pickF (bo g21) rfl) rfl ?_
      refine RunD.ot0 (x := .v (.bool false)) rfl rfl rfl rfl (.moveX rfl) rfl ?_
      refine RunD.xn rfl rfl rfl rfl rfl rfl ?_
      refine RunD.xn rfl rfl rfl rfl rfl rfl ?_
      refine RunD.xn rfl rfl rfl rfl rfl rfl ?_
      refine RunD.xn rfl rfl rfl rfl rfl rfl ?_
      refine RunD.xn rfl rfl rfl rfl rfl rfl ?_
      refine RunD.xn rfl rfl rfl rfl rfl rfl ?_
      refine RunD.xn rfl rfl rfl rfl rfl rfl ?_
      refine RunD.xn rfl rfl rfl rfl rfl rfl ?_
      refine RunD.xn rfl rfl rfl rfl rfl rfl ?_
      refine RunD.xn rfl rfl rfl rfl rfl rfl ?_
      refine RunD.xn rfl rfl rfl rfl rfl rfl ?_
      refine RunD.xn rfl rfl rfl rfl rfl rfl ?_
      refine RunD.xn rfl rfl rfl rfl rfl rfl ?_
      refine RunD.xn rfl rfl rfl rfl rfl rfl ?_
      refine RunD.xn rfl rfl rfl rfl rfl rfl ?_
      refine RunD.xn rfl rfl rfl rfl rfl rfl ?_
      refine RunD.xn rfl rfl rfl rfl rfl rfl ?_
      refine RunD.ot0 (x := .v (.bool false)) rfl rfl rfl rfl (.pickF rfl rfl) rfl ?_
      refine RunD.ot0 (x := .v (.bool false)) rfl rfl rfl rfl (.assignX rfl) rfl ?_
      refine RunD.nil (by kernel_rfl) ⟨rfl, rfl, ?_⟩
      obtain rfl := si H
      refine T.sub (sub_to (st' := ⟨[(4, .v (.bool false))], [], 8, []⟩) [] (by decide) rfl rfl (⟨⟨_, rfl, .one .v⟩, trivial⟩) (trivial)) ?_
      refine T.ret ?_
      exact RetOk.same [.v (.bool false)] ⟨rfl, trivial⟩ rfl rfl rfl
  · replace H := cf H g18
    refine RunD.xn rfl rfl rfl (bo g18) rfl rfl ?_
    refine RunD.xn rfl rfl rfl (bo g18) rfl rfl ?_
    refine RunD.xn rfl rfl rfl (bo g18) rfl rfl ?_
    refine RunD.xn rfl rfl rfl (bo g18) rfl rfl ?_
    refine RunD.ot0 (x := .v (.bool false)) rfl rfl rfl rfl (.pickF (bo g18) rfl) rfl ?_
    refine RunD.ot0 (x := .v (.bool false)) rfl rfl rfl rfl (.moveX rfl) rfl ?_
    refine RunD.xn rfl rfl rfl rfl rfl rfl ?_
    refine RunD.xn rfl rfl rfl rfl rfl rfl ?_
    refine RunD.xn rfl rfl rfl rfl rfl rfl ?_
    refine RunD.xn rfl rfl rfl rfl rfl rfl ?_
    refine RunD.xn rfl rfl rfl rfl rfl rfl ?_
    refine RunD.xn rfl rfl rfl rfl rfl rfl ?_
    refine RunD.xn rfl rfl rfl rfl rfl rfl ?_
    refine RunD.xn rfl rfl rfl rfl rfl rfl ?_
    refine RunD.xn rfl rfl rfl rfl rfl rfl ?_
    refine RunD.xn rfl rfl rfl rfl rfl rfl ?_
    refine RunD.xn rfl rfl rfl rfl rfl rfl ?_
    refine RunD.xn rfl rfl rfl rfl rfl rfl ?_
    refine RunD.xn rfl rfl rfl rfl rfl rfl ?_
    refine RunD.xn rfl rfl rfl rfl rfl rfl ?_
    refine RunD.ot0 (x := .v (.bool false)) rfl rfl rfl rfl (.pickF rfl rfl) rfl ?_
    refine RunD.ot0 (x := .v (.bool false)) rfl rfl rfl rfl (.moveX rfl) rfl ?_
    refine RunD.xn rfl rfl rfl rfl rfl rfl ?_
    refine RunD.xn rfl rfl rfl rfl rfl rfl ?_
    refine RunD.xn rfl rfl rfl rfl rfl rfl ?_
    refine RunD.xn rfl rfl rfl rfl rfl rfl ?_
    refine RunD.xn rfl rfl rfl rfl rfl rfl ?_
    refine RunD.xn rfl rfl rfl rfl rfl rfl ?_
    refine RunD.xn rfl rfl rfl rfl rfl rfl ?_
    refine RunD.xn rfl rfl rfl rfl rfl rfl ?_
    refine RunD.xn rfl rfl rfl rfl rfl rfl ?_
    refine RunD.xn rfl rfl rfl rfl rfl rfl ?_
    refine RunD.xn rfl rfl rfl rfl rfl rfl ?_
    refine RunD.xn rfl rfl rfl rfl rfl rfl ?_
    refine RunD.xn rfl rfl rfl rfl rfl rfl ?_
    refine RunD.xn rfl rfl rfl rfl rfl rfl ?_
    refine RunD.xn rfl rfl rfl rfl rfl rfl ?_
    refine RunD.xn rfl rfl rfl rfl rfl rfl ?_
    refine RunD.xn rfl rfl rfl rfl rfl rfl ?_
    refine RunD.ot0 (x := .v (.bool false)) rfl rfl rfl rfl (.pickF rfl rfl) rfl ?_
    refine RunD.ot0 (x := .v (.bool false)) rfl rfl rfl rfl (.assignX rfl) rfl ?_
    refine RunD.nil (by kernel_rfl) ⟨rfl, rfl, ?_⟩
    obtain rfl := si H
    refine T.sub (sub_to (st' := ⟨[(4, .v (.bool false))], [], 8, []⟩) [] (by decide) rfl rfl (⟨⟨_, rfl, .one .v⟩, trivial⟩) (trivial)) ?_
    refine T.ret ?_
    exact RetOk.same [.v (.bool false)] ⟨rfl, trivial⟩ rfl rfl rfl
set_option maxHeartbeats 4000000 in
theorem ref6_is_pc (al : Bool) (k : Nat) (a0 : (List Bool)) (a1 : Int) (o : Bool) (H : ref6_is k a0 a1 = some o) : PC Try.prog al 137 [.lst (List.map eB a0), .v (.int .i64 a1)] (.v (.bool o)) := by
  unfold ref6_is at H
  refine PC.of_T Try.func137 rfl rfl (n := 19) rfl rfl (.inr rfl) ?_
  intro base B w0
  refine T.st (st' := ⟨[(0, .lst (List.map eB a0)), (1, .v (.int .i64 a1))], [], 0, []⟩) rfl ?_
  refine T.seq ?_
  refine T.region ?_
  refine RunT.ot0 (x := .v (.bool false)) rfl rfl rfl rfl (.assignX rfl) ?_
  refine RunT.nil ?_
  refine T.seq ?_
  refine T.region ?_
  refine RunT.ot0 (x := .v (.int .i64 a1)) rfl rfl rfl rfl (.moveX rfl) ?_
  refine RunT.ot0 (x := .v (.bool (decide (0 ≤ a1)))) rfl rfl rfl rfl (.bin rfl rfl (fun w => b_geq w) rfl) ?_
  refine RunT.ot0 (x := .v (.bool (decide (0 ≤ a1)))) rfl rfl rfl rfl (.moveX rfl) ?_
  refine RunT.cases (t := 7) (c := decide (0 ≤ a1)) rfl (fun g1 => ?_) (fun g1 => ?_)
  · replace H := ct H g1
    refine RunT.gt0 (x := .v (.int .i64 a1)) rfl rfl rfl (bo g1) rfl rfl (.moveX rfl) ?_
    refine RunT.gt0 (x := .lst (List.map eB a0)) rfl rfl rfl (bo g1) rfl rfl (.moveX rfl) ?_
    refine RunT.gt0 (x := .v (.int .i64 (a0.length : Int))) rfl rfl rfl (bo g1) rfl rfl (.lenLm Try.underlying43 rfl rfl) ?_
    refine RunT.gt0 (x := .v (.bool (decide (a1 < (a0.length : Int))))) rfl rfl rfl (bo g1) rfl rfl (.bin rfl rfl (fun w => b_lss w) rfl) ?_
    refine RunT.ot0 (x := .v (.bool (decide (a1 < (a0.length : Int))))) rfl rfl rfl rfl (.pickT (bo g1) rfl) ?_
    refine RunT.ot0 (x := .v (.bool (decide (a1 < (a0.length : Int))))) rfl rfl rfl rfl (.moveX rfl) ?_
    refine RunT.cases (t := 13) (c := decide (a1 < (a0.length : Int))) rfl (fun g2 => ?_) (fun g2 => ?_)
    · replace H := ct H g2
      refine RunT.gt0 (x := .lst (List.map eB a0)) rfl rfl rfl (bo g2) rfl rfl (.moveX rfl) ?_
      refine RunT.gt0 (x := .v (.int .i64 a1)) rfl rfl rfl (bo g2) rfl rfl (.moveX rfl) ?_
      obtain ⟨y3, h4, H⟩ := bs H
      refine RunT.gt0 (x := .rptr [.v (.bool y3)]) rfl rfl rfl (bo g2) rfl rfl (.idxLX h4 enc_B sl43 rfl rfl rfl) ?_
      refine RunT.gt0 (x := .v (.bool y3)) rfl rfl rfl (bo g2) rfl rfl (.loadR ty4 rfl rfl) ?_
      refine RunT.ot0 (x := .v (.bool y3)) rfl rfl rfl rfl (.pickT (bo g2) rfl) ?_
      refine RunT.ot0 (x := .v (.bool y3)) rfl rfl rfl rfl (.assignX rfl) ?_
      refine RunT.nil ?_
      obtain rfl := si H
      refine T.sub (sub_to (st' := ⟨[(4, .v (.bool y3))], [], 8, []⟩) [] (by decide) rfl rfl (⟨⟨_, rfl, .one .v⟩, trivial⟩) (trivial)) ?_
      refine T.ret ?_
      exact RetOk.same [.v (.bool y3)] ⟨rfl, trivial⟩ rfl rfl rfl
    · replace H := cf H g2
      refine RunT.xn rfl rfl rfl (bo g2) rfl rfl ?_
      refine RunT.xn rfl rfl rfl (bo g2) rfl rfl ?_
      refine RunT.xn rfl rfl rfl (bo g2) rfl rfl ?_
      refine RunT.xn rfl rfl rfl (bo g2) rfl rfl ?_
      refine RunT.ot0 (x := .v (.bool false)) rfl rfl rfl rfl (.pickF (bo g2) rfl) ?_
      refine RunT.ot0 (x := .v (.bool false)) rfl rfl rfl rfl (.assignX rfl) ?_
      refine RunT.nil ?_
      obtain rfl := si H
      refine T.sub (sub_to (st' := ⟨[(4, .v (.bool false))], [], 8, []⟩) [] (by decide) rfl rfl (⟨⟨_, rfl, .one .v⟩, trivial⟩) (trivial)) ?_
      refine T.ret ?_
      exact RetOk.same [.v (.bool false)] ⟨rfl, trivial⟩ rfl rfl rfl
  · replace H := cf H g1
    refine RunT.xn rfl rfl rfl (bo g1) rfl rfl ?_
    refine RunT.xn rfl rfl rfl (bo g1) rfl rfl ?_
    refine RunT.xn rfl rfl rfl (bo g1) rfl rfl ?_
    refine RunT.xn rfl rfl rfl (bo g1) rfl rfl ?_
    refine RunT.ot0 (x := .v (.bool false)) rfl rfl rfl rfl (.pickF (bo g1) rfl) ?_
    refine RunT.ot0 (x := .v (.bool false)) rfl rfl rfl rfl (.moveX rfl) ?_
    refine RunT.xn rfl rfl rfl rfl rfl rfl ?_
    refine RunT.xn rfl rfl rfl rfl rfl rfl ?_
    refine RunT.xn rfl rfl rfl rfl rfl rfl ?_
    refine RunT.xn rfl rfl rfl rfl rfl rfl ?_
    refine RunT.ot0 (x := .v (.bool false)) rfl rfl rfl rfl (.pickF rfl rfl) ?_
    refine RunT.ot0 (x := .v (.bool false)) rfl rfl rfl rfl (.assignX rfl) ?_
    refine RunT.nil ?_
    obtain rfl := si H
    refine T.sub (sub_to (st' := ⟨[(4, .v (.bool false))], [], 8, []⟩) [] (by decide) rfl rfl (⟨⟨_, rfl, .one .v⟩, trivial⟩) (trivial)) ?_
    refine T.ret ?_
    exact RetOk.same [.v (.bool false)] ⟨rfl, trivial⟩ rfl rfl rfl
set_option maxHeartbeats 4000000 in
theorem ref6_long_pc (al : Bool) (k : Nat) (a0 : Venue) (a1 : (List Bool)) (a2 : Int) (o : Int) (H : ref6_long k a0 a1 a2 = some o) : PC Try.prog al 102 [.agg [.lst (List.map eSeat a0.Seats), .v (.int .i64 a0.Gap), .v (.int .i64 a0.Radius), .lst (List.map eI a0.Kills), .lst (List.map ePole a0.Poles)], .lst (List.map eB a1), .v (.int .i64 a2)] (.v (.int .i64 o)) := by
  unfold ref6_long at H
  refine PC.of_T Try.func102 rfl rfl (n := 34) rfl rfl (.inr rfl) ?_
  intro base B w0
  refine T.st (st' := ⟨[(0, .agg [.lst (List.map eSeat a0.Seats), .v (.int .i64 a0.Gap), .v (.int .i64 a0.Radius), .lst (List.map eI a0.Kills), .lst (List.map ePole a0.Poles)]), (1, .lst (List.map eB a1)), (2, .v (.int .i64 a2))], [], 0, []⟩) rfl ?_
  refine T.seq ?_
  refine T.region ?_
  refine RunT.ot1 (x := .ptr 0 0) (p0 := (0, some (.box [.lst (List.map eSeat a0.Seats), .v (.int .i64 a0.Gap), .v (.int .i64 a0.Radius), .lst (List.map eI a0.Kills), .lst (List.map ePole a0.Poles)]))) (n' := 8) rfl rfl rfl rfl (.boxX rfl rfl rfl) rfl ?_
  refine RunT.ot0 (x := .v (.int .i64 0)) rfl rfl rfl rfl (.assignX rfl) ?_
  refine RunT.nil ?_
  refine T.seq ?_
  obtain ⟨o6, E7, HO8⟩ := bs H
  refine T.cut (⟨[(1, .lst (List.map eB a1)), (2, .v (.int .i64 a2)), (3, .ptr 0 0), (17, .v (.bool o6))], [(0, some (.box [.lst (List.map eSeat a0.Seats), .v (.int .i64 a0.Gap), .v (.int .i64 a0.Radius), .lst (List.map eI a0.Kills), .lst (List.map ePole a0.Poles)]))], 8, []⟩) ?_ ?_
  · have H := E7
    refine T.region ?_
    refine RunT.ot0 (x := .agg [.lst (List.map eSeat a0.Seats), .v (.int .i64 a0.Gap), .v (.int .i64 a0.Radius), .lst (List.map eI a0.Kills), .lst (List.map ePole a0.Poles)]) rfl rfl rfl rfl (.loadP ty26 rfl rfl rfl) ?_
    refine RunT.ot0 (x := .v (.int .i64 a2)) rfl rfl rfl rfl (.moveX rfl) ?_
    obtain ⟨r9, h10, H⟩ := bs H
    refine RunT.ot0 (x := .v (.bool r9)) rfl rfl rfl rfl (.callp (ref6_seat_pc false k a0 a2 r9 h10) rfl ⟨(.agg' ⟨.lst, .v, .v, .lst, .lst, trivial⟩), (.one .v), trivial⟩ rfl rfl rfl) ?_
    refine RunT.ot0 (x := .v (.bool (!r9))) rfl rfl rfl rfl (.un rfl (fun w => u_not w) rfl) ?_
    refine RunT.ot0 (x := .v (.bool (!r9))) rfl rfl rfl rfl (.moveX rfl) ?_
    refine RunT.cases (t := 12) (c := !r9) rfl (fun g11 => ?_) (fun g11 => ?_)
    · replace H := ct H g11
      refine RunT.xn rfl rfl rfl (bo g11) rfl rfl ?_
      refine RunT.xn rfl rfl rfl (bo g11) rfl rfl ?_
      refine RunT.xn rfl rfl rfl (bo g11) rfl rfl ?_
      refine RunT.xn rfl rfl rfl (bo g11) rfl rfl ?_
      refine RunT.ot0 (x := .v (.bool true)) rfl rfl rfl rfl (.pickT (bo g11) rfl) ?_
      refine RunT.nil ?_
      obtain rfl := si H
      exact (sub_to [some 0] (by decide) rfl rfl (⟨⟨_, rfl, .one .lst⟩, ⟨⟨_, rfl, .one .v⟩, ⟨⟨_, rfl, .one (.ptr rfl)⟩, ⟨⟨_, rfl, .one .v⟩, trivial⟩⟩⟩⟩) (⟨⟨rfl, .inl ⟨_, _, rfl, rfl, .box ⟨.lst, .v, .v, .lst, .lst, trivial⟩⟩⟩, trivial⟩))
    · replace H := cf H g11
      refine RunT.gt0 (x := .lst (List.map eB a1)) rfl rfl rfl (bo g11) rfl rfl (.moveX rfl) ?_
      refine RunT.gt0 (x := .v (.int .i64 a2)) rfl rfl rfl (bo g11) rfl rfl (.moveX rfl) ?_
      obtain ⟨r12, h13, H⟩ := bs H
      refine RunT.gt0 (x := .v (.bool r12)) rfl rfl rfl (bo g11) rfl rfl (.callp (ref6_is_pc false k a1 a2 r12 h13) rfl ⟨(.one .lst), (.one .v), trivial⟩ rfl rfl rfl) ?_
      refine RunT.gt0 (x := .v (.bool (!r12))) rfl rfl rfl (bo g11) rfl rfl (.un rfl (fun w => u_not w) rfl) ?_
      refine RunT.ot0 (x := .v (.bool (!r12))) rfl rfl rfl rfl (.pickF (bo g11) rfl) ?_
      refine RunT.nil ?_
      obtain rfl := si H
      exact (sub_to [some 0] (by decide) rfl rfl (⟨⟨_, rfl, .one .lst⟩, ⟨⟨_, rfl, .one .v⟩, ⟨⟨_, rfl, .one (.ptr rfl)⟩, ⟨⟨_, rfl, .one .v⟩, trivial⟩⟩⟩⟩) (⟨⟨rfl, .inl ⟨_, _, rfl, rfl, .box ⟨.lst, .v, .v, .lst, .lst, trivial⟩⟩⟩, trivial⟩))
  · have H := HO8
    refine T.cond2 (t := o6) rfl (fun c14 => ?_) (fun c14 => ?_)
    · replace H := ct H c14
      refine T.seq ?_
      refine T.sub (sub_pick [] [] (st' := ⟨[], [], 8, []⟩) rfl rfl rfl rfl rfl) ?_
      refine T.region ?_
      refine RunT.ot0 (x := .v (.int .i64 0)) rfl rfl rfl rfl (.assignX rfl) ?_
      refine RunT.nil ?_
      obtain rfl := si H
      refine T.sub (sub_to (st' := ⟨[(6, .v (.int .i64 0))], [], 8, []⟩) [] (by decide) rfl rfl (⟨⟨_, rfl, .one .v⟩, trivial⟩) (trivial)) ?_
      refine T.ret ?_
      exact RetOk.same [.v (.int .i64 0)] ⟨rfl, trivial⟩ rfl rfl rfl
    · replace H := cf H c14
      refine T.skip ?_
      refine T.seq ?_
      refine T.region ?_
      refine RunT.ot0 (x := .v (.int .i64 1)) rfl rfl rfl rfl (.assignX rfl) ?_
      refine RunT.nil ?_
      obtain ⟨o28, E29, HO30⟩ := bs H
      refine T.cut (⟨[(7, .v (.int .i64 o28))], [], 8, []⟩) ?_ ?_
      · have H := E29
        refine T.block ?_
        refine T.loopS (fun n s => ∃ (v31 : Int), ref6_long_l0 k a0 a1 a2 n v31 = some o28 ∧ s = ⟨[(1, .lst (List.map eB a1)), (2, .v (.int .i64 a2)), (3, .ptr 0 0), (7, .v (.int .i64 v31))], [(0, some (.box [.lst (List.map eSeat a0.Seats), .v (.int .i64 a0.Gap), .v (.int .i64 a0.Radius), .lst (List.map eI a0.Kills), .lst (List.map ePole a0.Poles)]))], 8, []⟩) k ⟨_, ⟨1, H, rfl⟩, sub_to [some 0] (by decide) rfl rfl (⟨⟨_, rfl, .one .lst⟩, ⟨⟨_, rfl, .one .v⟩, ⟨⟨_, rfl, .one (.ptr rfl)⟩, ⟨⟨_, rfl, .one .v⟩, trivial⟩⟩⟩⟩) (⟨⟨rfl, .inl ⟨_, _, rfl, rfl, .box ⟨.lst, .v, .v, .lst, .lst, trivial⟩⟩⟩, trivial⟩)⟩ ?_
        rintro n s ⟨v31, H, rfl⟩
        rcases n with _ | n
        · cases (show none = some _ from H)
        rw [ref6_long_l0] at H
        refine T.seq ?_
        refine T.seq ?_
        refine T.sub (sub_pick [1, 2, 3, 7] [0] (st' := ⟨[(1, .lst (List.map eB a1)), (2, .v (.int .i64 a2)), (3, .ptr 0 0), (7, .v (.int .i64 v31))], [(0, some (.box [.lst (List.map eSeat a0.Seats), .v (.int .i64 a0.Gap), .v (.int .i64 a0.Radius), .lst (List.map eI a0.Kills), .lst (List.map ePole a0.Poles)]))], 8, []⟩) rfl rfl rfl rfl rfl) ?_
        refine T.region ?_
        refine RunT.ot0 (x := .agg [.lst (List.map eSeat a0.Seats), .v (.int .i64 a0.Gap), .v (.int .i64 a0.Radius), .lst (List.map eI a0.Kills), .lst (List.map ePole a0.Poles)]) rfl rfl rfl rfl (.loadP ty26 rfl rfl rfl) ?_
        refine RunT.ot0 (x := .v (.int .i64 a2)) rfl rfl rfl rfl (.moveX rfl) ?_
        refine RunT.ot0 (x := .v (.int .i64 v31)) rfl rfl rfl rfl (.moveX rfl) ?_
        refine RunT.ot0 (x := .v (.int .i64 (wr (a2 + v31)))) rfl rfl rfl rfl (.bin rfl rfl (fun w => b_addw w) rfl) ?_
        refine RunT.ot0 (x := .v (.int .i64 (wr ((wr (a2 + v31)) - 1)))) rfl rfl rfl rfl (.bin rfl rfl (fun w => b_subw w) rfl) ?_
        obtain ⟨r32, h33, H⟩ := bs H
        refine RunT.ot0 (x := .v (.bool r32)) rfl rfl rfl rfl (.callp (ref6_next_pc false k a0 (wr ((wr (a2 + v31)) - 1)) r32 h33) rfl ⟨(.agg' ⟨.lst, .v, .v, .lst, .lst, trivial⟩), (.one .v), trivial⟩ rfl rfl rfl) ?_
        refine RunT.ot0 (x := .v (.bool r32)) rfl rfl rfl rfl (.moveX rfl) ?_
        refine RunT.cases (t := 24) (c := r32) rfl (fun g34 => ?_) (fun g34 => ?_)
        · replace H := ct H g34
          refine RunT.gt0 (x := .lst (List.map eB a1)) rfl rfl rfl (bo g34) rfl rfl (.moveX rfl) ?_
          refine RunT.gt0 (x := .v (.int .i64 a2)) rfl rfl rfl (bo g34) rfl rfl (.moveX rfl) ?_
          refine RunT.gt0 (x := .v (.int .i64 v31)) rfl rfl rfl (bo g34) rfl rfl (.moveX rfl) ?_
          refine RunT.gt0 (x := .v (.int .i64 (wr (a2 + v31)))) rfl rfl rfl (bo g34) rfl rfl (.bin rfl rfl (fun w => b_addw w) rfl) ?_
          obtain ⟨r35, h36, H⟩ := bs H
          refine RunT.gt0 (x := .v (.bool r35)) rfl rfl rfl (bo g34) rfl rfl (.callp (ref6_is_pc false k a1 (wr (a2 + v31)) r35 h36) rfl ⟨(.one .lst), (.one .v), trivial⟩ rfl rfl rfl) ?_
          refine RunT.ot0 (x := .v (.bool r35)) rfl rfl rfl rfl (.pickT (bo g34) rfl) ?_
          refine RunT.nil ?_
          refine T.cond2 (t := r35) rfl (fun c37 => ?_) (fun c37 => ?_)
          · replace H := ct H c37
            refine T.skip ?_
            refine T.block ?_
            refine T.region ?_
            refine RunT.ot0 (x := .v (.int .i64 v31)) rfl rfl rfl rfl (.moveX rfl) ?_
            refine RunT.ot0 (x := .v (.int .i64 (wr (v31 + 1)))) rfl rfl rfl rfl (.bin rfl rfl (fun w => b_addw w) rfl) ?_
            refine RunT.ot0 (x := .v (.int .i64 (wr (v31 + 1)))) rfl rfl rfl rfl (.assignX rfl) ?_
            refine RunT.nil ?_
            exact ⟨n, Nat.lt_succ_self n, _, ⟨wr (v31 + 1), H, rfl⟩, (sub_to [some 0] (by decide) rfl rfl (⟨⟨_, rfl, .one .lst⟩, ⟨⟨_, rfl, .one .v⟩, ⟨⟨_, rfl, .one (.ptr rfl)⟩, ⟨⟨_, rfl, .one .v⟩, trivial⟩⟩⟩⟩) (⟨⟨rfl, .inl ⟨_, _, rfl, rfl, .box ⟨.lst, .v, .v, .lst, .lst, trivial⟩⟩⟩, trivial⟩))⟩
          · replace H := cf H c37
            refine T.exit ?_
            obtain rfl := si H
            exact (sub_to [] (by decide) rfl rfl (⟨⟨_, rfl, .one .v⟩, trivial⟩) (trivial))
        · replace H := cf H g34
          refine RunT.xn rfl rfl rfl (bo g34) rfl rfl ?_
          refine RunT.xn rfl rfl rfl (bo g34) rfl rfl ?_
          refine RunT.xn rfl rfl rfl (bo g34) rfl rfl ?_
          refine RunT.xn rfl rfl rfl (bo g34) rfl rfl ?_
          refine RunT.xn rfl rfl rfl (bo g34) rfl rfl ?_
          refine RunT.ot0 (x := .v (.bool false)) rfl rfl rfl rfl (.pickF (bo g34) rfl) ?_
          refine RunT.nil ?_
          refine T.condF rfl ?_
          refine T.exit ?_
          obtain rfl := si H
          exact (sub_to [] (by decide) rfl rfl (⟨⟨_, rfl, .one .v⟩, trivial⟩) (trivial))
      · have H := HO30
        refine T.seq ?_
        refine T.sub (sub_pick [7] [] (st' := ⟨[(7, .v (.int .i64 o28))], [], 8, []⟩) rfl rfl rfl rfl rfl) ?_
        refine T.region ?_
        refine RunT.ot0 (x := .v (.int .i64 o28)) rfl rfl rfl rfl (.moveX rfl) ?_
        refine RunT.ot0 (x := .v (.int .i64 o28)) rfl rfl rfl rfl (.assignX rfl) ?_
        refine RunT.nil ?_
        obtain rfl := si H
        refine T.sub (sub_to (st' := ⟨[(6, .v (.int .i64 o28))], [], 8, []⟩) [] (by decide) rfl rfl (⟨⟨_, rfl, .one .v⟩, trivial⟩) (trivial)) ?_
        refine T.ret ?_
        exact RetOk.same [.v (.int .i64 o28)] ⟨rfl, trivial⟩ rfl rfl rfl
set_option maxHeartbeats 4000000 in
theorem ref6_Long_pc (al : Bool) (k : Nat) (a0 : Venue) (a1 : (List Bool)) (a2 : Int) (o : Int) (H : ref6_Long k a0 a1 a2 = some o) : PC Try.prog al 47 [.agg [.lst (List.map eSeat a0.Seats), .v (.int .i64 a0.Gap), .v (.int .i64 a0.Radius), .lst (List.map eI a0.Kills), .lst (List.map ePole a0.Poles)], .lst (List.map eB a1), .v (.int .i64 a2)] (.v (.int .i64 o)) := by
  unfold ref6_Long at H
  refine PC.of_T Try.func47 rfl rfl (n := 14) rfl rfl (.inr rfl) ?_
  intro base B w0
  refine T.st (st' := ⟨[(0, .agg [.lst (List.map eSeat a0.Seats), .v (.int .i64 a0.Gap), .v (.int .i64 a0.Radius), .lst (List.map eI a0.Kills), .lst (List.map ePole a0.Poles)]), (1, .lst (List.map eB a1)), (2, .v (.int .i64 a2))], [], 0, []⟩) rfl ?_
  refine T.seq ?_
  refine T.region ?_
  refine RunT.ot1 (x := .ptr 0 0) (p0 := (0, some (.box [.lst (List.map eSeat a0.Seats), .v (.int .i64 a0.Gap), .v (.int .i64 a0.Radius), .lst (List.map eI a0.Kills), .lst (List.map ePole a0.Poles)]))) (n' := 8) rfl rfl rfl rfl (.boxX rfl rfl rfl) rfl ?_
  refine RunT.ot0 (x := .v (.int .i64 0)) rfl rfl rfl rfl (.assignX rfl) ?_
  refine RunT.nil ?_
  refine T.seq ?_
  refine T.seq ?_
  refine T.region ?_
  refine RunT.ot0 (x := .agg [.lst (List.map eSeat a0.Seats), .v (.int .i64 a0.Gap), .v (.int .i64 a0.Radius), .lst (List.map eI a0.Kills), .lst (List.map ePole a0.Poles)]) rfl rfl rfl rfl (.loadP ty26 rfl rfl rfl) ?_
  obtain ⟨r1, h2, H⟩ := bs H
  refine RunT.ot0 (x := .v (.bool r1)) rfl rfl rfl rfl (.callp (ref2_May_pc false k a0 r1 h2) rfl ⟨(.agg' ⟨.lst, .v, .v, .lst, .lst, trivial⟩), trivial⟩ rfl rfl rfl) ?_
  refine RunT.ot0 (x := .v (.bool (!r1))) rfl rfl rfl rfl (.un rfl (fun w => u_not w) rfl) ?_
  refine RunT.nil ?_
  refine T.cond2 (t := !r1) rfl (fun c3 => ?_) (fun c3 => ?_)
  · replace H := ct H c3
    refine T.seq ?_
    refine T.region ?_
    refine RunT.ot0 (x := .v (.int .i64 0)) rfl rfl rfl rfl (.assignX rfl) ?_
    refine RunT.nil ?_
    obtain rfl := si H
    refine T.sub (sub_to (st' := ⟨[(6, .v (.int .i64 0))], [], 8, []⟩) [] (by decide) rfl rfl (⟨⟨_, rfl, .one .v⟩, trivial⟩) (trivial)) ?_
    refine T.ret ?_
    exact RetOk.same [.v (.int .i64 0)] ⟨rfl, trivial⟩ rfl rfl rfl
  · replace H := cf H c3
    refine T.skip ?_
    refine T.seq ?_
    refine T.region ?_
    refine RunT.ot0 (x := .agg [.lst (List.map eSeat a0.Seats), .v (.int .i64 a0.Gap), .v (.int .i64 a0.Radius), .lst (List.map eI a0.Kills), .lst (List.map ePole a0.Poles)]) rfl rfl rfl rfl (.loadP ty26 rfl rfl rfl) ?_
    refine RunT.ot0 (x := .lst (List.map eB a1)) rfl rfl rfl rfl (.moveX rfl) ?_
    refine RunT.ot0 (x := .v (.int .i64 a2)) rfl rfl rfl rfl (.moveX rfl) ?_
    obtain ⟨r4, h5, H⟩ := bs H
    refine RunT.ot0 (x := .v (.int .i64 r4)) rfl rfl rfl rfl (.callp (ref6_long_pc false k a0 a1 a2 r4 h5) rfl ⟨(.agg' ⟨.lst, .v, .v, .lst, .lst, trivial⟩), (.one .lst), (.one .v), trivial⟩ rfl rfl rfl) ?_
    refine RunT.ot0 (x := .v (.int .i64 r4)) rfl rfl rfl rfl (.assignX rfl) ?_
    refine RunT.nil ?_
    obtain rfl := si H
    refine T.sub (sub_to (st' := ⟨[(6, .v (.int .i64 r4))], [], 8, []⟩) [] (by decide) rfl rfl (⟨⟨_, rfl, .one .v⟩, trivial⟩) (trivial)) ?_
    refine T.ret ?_
    exact RetOk.same [.v (.int .i64 r4)] ⟨rfl, trivial⟩ rfl rfl rfl
set_option maxHeartbeats 4000000 in
theorem ref6_row_pc (al : Bool) (k : Nat) (a0 : Int) (a1 : Int) (o : (List Int)) (H : ref6_row k a0 a1 = some o) : PC Try.prog al 98 [.v (.int .i64 a0), .v (.int .i64 a1)] (.frs 1 (List.map eI o)) := by
  unfold ref6_row at H
  refine PC.of_T Try.func98 rfl rfl (n := 19) rfl rfl (.inr (flat1_frs (sz := 1) fl_I)) ?_
  intro base B w0
  refine T.st (st' := ⟨[(0, .v (.int .i64 a0)), (1, .v (.int .i64 a1))], [], 0, []⟩) rfl ?_
  refine T.seq ?_
  refine T.region ?_
  refine RunT.ot0 (x := .v (.slice none 0 0)) rfl rfl rfl rfl (.assignX rfl) ?_
  refine RunT.nil ?_
  refine T.seq ?_
  refine T.region ?_
  refine RunT.ot0 (x := .v (.slice none 0 0)) rfl rfl rfl rfl (.assignX rfl) ?_
  refine RunT.nil ?_
  refine T.seq ?_
  refine T.seq ?_
  refine T.region ?_
  refine RunT.ot0 (x := .v (.int .i64 0)) rfl rfl rfl rfl (.assignX rfl) ?_
  refine RunT.nil ?_
  obtain ⟨o7, E8, HO9⟩ := bs H
  refine T.cutE (⟨[(5, .own 0 0 o7.length)], [(0, some (.arr false 1 (List.map eI o7)))], 8, []⟩) ?_ ?_
  · have H := E8
    refine T.block ?_
    refine T.loopS (fun n s => ∃ (v10 : (List Int)) (v11 : Int), ref6_row_l0 k a0 a1 n v10 v11 = some o7 ∧ s = ⟨[(0, .v (.int .i64 a0)), (1, .v (.int .i64 a1)), (5, .own 0 0 v10.length), (6, .v (.int .i64 v11))], [(0, some (.arr false 1 (List.map eI v10)))], 8, []⟩) k ⟨_, ⟨[], 0, H, rfl⟩, sub_to [none] (by decide) rfl rfl (⟨⟨_, rfl, .one .v⟩, ⟨⟨_, rfl, .one .v⟩, ⟨⟨_, rfl, .one .nilO⟩, ⟨⟨_, rfl, .one .v⟩, trivial⟩⟩⟩⟩) (⟨⟨rfl, .inr ⟨rfl, false, _, rfl, (by decide)⟩⟩, trivial⟩)⟩ ?_
    rintro n s ⟨v10, v11, H, rfl⟩
    rcases n with _ | n
    · cases (show none = some _ from H)
    rw [ref6_row_l0] at H
    refine T.seq ?_
    refine T.seq ?_
    refine T.region ?_
    refine RunT.ot0 (x := .v (.int .i64 v11)) rfl rfl rfl rfl (.moveX rfl) ?_
    refine RunT.ot0 (x := .v (.int .i64 a1)) rfl rfl rfl rfl (.moveX rfl) ?_
    refine RunT.ot0 (x := .v (.bool (decide (v11 < a1)))) rfl rfl rfl rfl (.bin rfl rfl (fun w => b_lss w) rfl) ?_
    refine RunT.nil ?_
    refine T.cond2 (t := decide (v11 < a1)) rfl (fun c12 => ?_) (fun c12 => ?_)
    · replace H := ct H c12
      refine T.skip ?_
      refine T.seq ?_
      refine T.block ?_
      refine T.sub (sub_pick [0, 1, 5, 6] [0] (st' := ⟨[(0, .v (.int .i64 a0)), (1, .v (.int .i64 a1)), (5, .own 0 0 v10.length), (6, .v (.int .i64 v11))], [(0, some (.arr false 1 (List.map eI v10)))], 8, []⟩) rfl rfl rfl rfl rfl) ?_
      refine T.region ?_
      refine RunT.ot0 (x := .own 0 0 v10.length) rfl rfl rfl rfl (.moveX rfl) ?_
      refine RunT.ot0 (x := .v (.int .i64 a0)) rfl rfl rfl rfl (.moveX rfl) ?_
      refine RunT.ot0 (x := .v (.int .i64 v11)) rfl rfl rfl rfl (.moveX rfl) ?_
      refine RunT.ot0 (x := .v (.int .i64 (wr (a0 + v11)))) rfl rfl rfl rfl (.bin rfl rfl (fun w => b_addw w) rfl) ?_
      refine RunT.ot1 (x := .own 8 0 (([wr (a0 + v11)]).length)) (p0 := (8, some (.arr false 1 (List.map eI [wr (a0 + v11)])))) (n' := 16) rfl rfl rfl rfl (.bslicem (d := false) (l := [wr (a0 + v11)]) (f := eI) sl23 rfl rfl rfl enc_I rfl) rfl ?_
      obtain ⟨h13, H⟩ := gs H
      refine RunT.ot2 (x := .own 16 0 ((v10 ++ [wr (a0 + v11)]).length)) (p0 := (16, some (.arr false 1 (List.map eI (v10 ++ [wr (a0 + v11)]))))) (p1 := (0, none)) (n' := 24) rfl rfl rfl rfl (.appOn (d := false) (l := v10) (m := [wr (a0 + v11)]) (f := eI) rfl sl23 rfl rfl rfl (.ownn Try.underlying23 rfl rfl (fun h => by cases h)) rfl h13) rfl ?_
      refine RunT.ot0 (x := .own 16 0 ((v10 ++ [wr (a0 + v11)]).length)) rfl rfl rfl rfl (.assignX rfl) ?_
      refine RunT.nil ?_
      refine T.region ?_
      refine RunT.ot0 (x := .v (.int .i64 v11)) rfl rfl rfl rfl (.moveX rfl) ?_
      refine RunT.ot0 (x := .v (.int .i64 (wr (v11 + 1)))) rfl rfl rfl rfl (.bin rfl rfl (fun w => b_addw w) rfl) ?_
      refine RunT.ot0 (x := .v (.int .i64 (wr (v11 + 1)))) rfl rfl rfl rfl (.assignX rfl) ?_
      refine RunT.nil ?_
      exact ⟨n, Nat.lt_succ_self n, _, ⟨v10 ++ [wr (a0 + v11)], wr (v11 + 1), H, rfl⟩, (sub_to [some 16] (by decide) rfl rfl (⟨⟨_, rfl, .one .v⟩, ⟨⟨_, rfl, .one .v⟩, ⟨⟨_, rfl, .one (.own rfl)⟩, ⟨⟨_, rfl, .one .v⟩, trivial⟩⟩⟩⟩) (⟨⟨rfl, .inl ⟨_, _, rfl, rfl, .arr rfl⟩⟩, trivial⟩))⟩
    · replace H := cf H c12
      refine T.exit ?_
      obtain rfl := si H
      exact (sub_to [some 0] (by decide) rfl rfl (⟨⟨_, rfl, .one (.own rfl)⟩, trivial⟩) (⟨⟨rfl, .inl ⟨_, _, rfl, rfl, .arr rfl⟩⟩, trivial⟩))
  · intro s hS
    have H := HO9
    refine T.sub hS ?_
    refine T.seq ?_
    refine T.region ?_
    refine RunT.ot0 (x := .own 0 0 o7.length) rfl rfl rfl rfl (.moveX rfl) ?_
    refine RunT.ot0 (x := .own 0 0 o7.length) rfl rfl rfl rfl (.assignX rfl) ?_
    refine RunT.nil ?_
    obtain rfl := si H
    refine T.sub (sub_to (st' := ⟨[(4, .own 0 0 ((List.map eI o7).length))], [(0, some (.arr false 1 (List.map eI o7)))], 8, []⟩) [some 0] (by decide) rfl rfl (⟨⟨_, rfl, .one (.own' rfl (List.length_map _).symm)⟩, trivial⟩) (⟨⟨rfl, .inl ⟨_, _, rfl, rfl, .arr rfl⟩⟩, trivial⟩)) ?_
    refine T.ret ?_
    exact RetOk.same [.own 0 0 ((List.map eI o7).length)] ⟨rfl, trivial⟩ rfl rfl rfl
end Go.Proofs.Ytlfpkjlaajfjnaa
