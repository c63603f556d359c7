/- The Go functions come to just what their plain forms come to: one contract each. -/
import Derived.Test.YtlfpkjlaajfjnaaYPlaceLong1
set_option linter.unusedVariables false
set_option linter.unusedSimpArgs false
set_option maxRecDepth 100000
namespace Go.Proofs.Ytlfpkjlaajfjnaa
open Go Go.Sh Go.Px
attribute [local irreducible] Go.Sh.T Go.Sh.RunT Go.Sh.RunD
set_option maxHeartbeats 4000000 in
theorem law11_told_pc (al : Bool) (k : Nat)  (o : Bool) (H : law11_told k  = some o) : PC Try.prog al 59 [] (.v (.bool o)) := by
  unfold law11_told at H
  refine PC.of_T Try.func59 rfl rfl (n := 117) rfl rfl (.inr rfl) ?_
  intro base B w0
  refine T.st (st' := ⟨[], [], 0, []⟩) rfl ?_
  refine T.seq ?_
  refine T.region ?_
  refine RunT.ot0 (x := .v (.bool false)) rfl rfl rfl rfl (.assignX rfl) ?_
  refine RunT.nil ?_
  refine T.seq ?_
  refine T.region ?_
  refine RunT.ot0 (x := .agg [.v (.int .i64 0), .v (.int .i64 0), .v (.int .i64 0), .v (.int .i64 0)]) rfl rfl rfl rfl (.bu bu28 rfl) ?_
  refine RunT.ot0 (x := .agg [.v (.int .i64 0), .v (.int .i64 10), .v (.int .i64 0), .v (.int .i64 2)]) rfl rfl rfl rfl (.bu bu28 rfl) ?_
  refine RunT.ot0 (x := .agg [.v (.int .i64 0), .v (.int .i64 20), .v (.int .i64 0), .v (.int .i64 1)]) rfl rfl rfl rfl (.bu bu28 rfl) ?_
  refine RunT.ot0 (x := .agg [.v (.int .i64 0), .v (.int .i64 30), .v (.int .i64 0), .v (.int .i64 0)]) rfl rfl rfl rfl (.bu bu28 rfl) ?_
  refine RunT.ot0 (x := .agg [.v (.int .i64 0), .v (.int .i64 40), .v (.int .i64 0), .v (.int .i64 0)]) rfl rfl rfl rfl (.bu bu28 rfl) ?_
  refine RunT.ot0 (x := .agg [.v (.int .i64 0), .v (.int .i64 50), .v (.int .i64 0), .v (.int .i64 0)]) rfl rfl rfl rfl (.bu bu28 rfl) ?_
  refine RunT.ot1 (x := .own 0 0 (([Seat.mk 0 0 0 0, Seat.mk 0 10 0 2, Seat.mk 0 20 0 1, Seat.mk 0 30 0 0, Seat.mk 0 40 0 0, Seat.mk 0 50 0 0]).length)) (p0 := (0, some (.arr false 4 (List.map eSeat [Seat.mk 0 0 0 0, Seat.mk 0 10 0 2, Seat.mk 0 20 0 1, Seat.mk 0 30 0 0, Seat.mk 0 40 0 0, Seat.mk 0 50 0 0])))) (n' := 8) rfl rfl rfl rfl (.bslicem (d := false) (l := [Seat.mk 0 0 0 0, Seat.mk 0 10 0 2, Seat.mk 0 20 0 1, Seat.mk 0 30 0 0, Seat.mk 0 40 0 0, Seat.mk 0 50 0 0]) (f := eSeat) sl22 rfl rfl rfl enc_Seat rfl) rfl ?_
  refine RunT.ot0 (x := .agg [.own 0 0 (([Seat.mk 0 0 0 0, Seat.mk 0 10 0 2, Seat.mk 0 20 0 1, Seat.mk 0 30 0 0, Seat.mk 0 40 0 0, Seat.mk 0 50 0 0]).length), .v (.int .i64 10), .v (.int .i64 15), .v (.slice none 0 0), .v (.slice none 0 0)]) rfl rfl rfl rfl (.bu bu26 rfl) ?_
  refine RunT.ot1 (x := .ptr 8 0) (p0 := (8, some (.box [.v (.slice none 0 0), .v (.int .i64 0), .v (.int .i64 0), .v (.slice none 0 0), .v (.slice none 0 0)]))) (n' := 16) rfl rfl rfl rfl (.allocX in26.zero rfl rfl) rfl ?_
  refine RunT.on1 (x := .junk) (p0 := (8, some (.box [.own 0 0 (([Seat.mk 0 0 0 0, Seat.mk 0 10 0 2, Seat.mk 0 20 0 1, Seat.mk 0 30 0 0, Seat.mk 0 40 0 0, Seat.mk 0 50 0 0]).length), .v (.int .i64 10), .v (.int .i64 15), .v (.slice none 0 0), .v (.slice none 0 0)]))) (n' := 24) rfl rfl rfl (.storePX ty26 rfl rfl rfl rfl rfl rfl rfl) rfl ?_
  refine RunT.nil ?_
  refine T.seq ?_
  refine T.region ?_
  refine RunT.ot0 (x := .agg [.v (.int .i64 1), .v (.int .i64 0)]) rfl rfl rfl rfl (.bu bu66 rfl) ?_
  refine RunT.ot0 (x := .agg [.v (.int .i64 2), .v (.int .i64 0)]) rfl rfl rfl rfl (.bu bu66 rfl) ?_
  refine RunT.ot0 (x := .agg [.v (.int .i64 2), .v (.int .i64 1)]) rfl rfl rfl rfl (.bu bu66 rfl) ?_
  refine RunT.ot1 (x := .ptr 24 0) (p0 := (24, some (.box [.v (.int .i64 0), .v (.int .i64 0)]))) (n' := 32) rfl rfl rfl rfl (.allocX in66.zero rfl rfl) rfl ?_
  refine RunT.ot1 (x := .ptr 32 0) (p0 := (32, some (.box [.v (.int .i64 0), .v (.int .i64 0)]))) (n' := 40) rfl rfl rfl rfl (.allocX in66.zero rfl rfl) rfl ?_
  refine RunT.ot1 (x := .ptr 40 0) (p0 := (40, some (.box [.v (.int .i64 0), .v (.int .i64 0)]))) (n' := 48) rfl rfl rfl rfl (.allocX in66.zero rfl rfl) rfl ?_
  refine RunT.on1 (x := .junk) (p0 := (24, some (.box [.v (.int .i64 1), .v (.int .i64 0)]))) (n' := 56) rfl rfl rfl (.storePX ty66 rfl rfl rfl rfl rfl rfl rfl) rfl ?_
  refine RunT.on1 (x := .junk) (p0 := (32, some (.box [.v (.int .i64 2), .v (.int .i64 0)]))) (n' := 64) rfl rfl rfl (.storePX ty66 rfl rfl rfl rfl rfl rfl rfl) rfl ?_
  refine RunT.on1 (x := .junk) (p0 := (40, some (.box [.v (.int .i64 2), .v (.int .i64 1)]))) (n' := 72) rfl rfl rfl (.storePX ty66 rfl rfl rfl rfl rfl rfl rfl) rfl ?_
  refine RunT.nil ?_
  refine T.seq ?_
  refine T.sub (sub_pick [1, 2, 3, 4] [0, 8, 24, 32, 40] (st' := ⟨[(1, .ptr 8 0), (2, .ptr 24 0), (3, .ptr 32 0), (4, .ptr 40 0)], [(0, some (.arr false 4 (List.map eSeat [Seat.mk 0 0 0 0, Seat.mk 0 10 0 2, Seat.mk 0 20 0 1, Seat.mk 0 30 0 0, Seat.mk 0 40 0 0, Seat.mk 0 50 0 0]))), (8, some (.box [.own 0 0 (([Seat.mk 0 0 0 0, Seat.mk 0 10 0 2, Seat.mk 0 20 0 1, Seat.mk 0 30 0 0, Seat.mk 0 40 0 0, Seat.mk 0 50 0 0]).length), .v (.int .i64 10), .v (.int .i64 15), .v (.slice none 0 0), .v (.slice none 0 0)])), (24, some (.box [.v (.int .i64 1), .v (.int .i64 0)])), (32, some (.box [.v (.int .i64 2), .v (.int .i64 0)])), (40, some (.box [.v (.int .i64 2), .v (.int .i64 1)]))], 72, []⟩) rfl rfl rfl rfl rfl) ?_
  refine T.region ?_
  refine RunT.ot0 (x := .agg [.own 0 0 (([Seat.mk 0 0 0 0, Seat.mk 0 10 0 2, Seat.mk 0 20 0 1, Seat.mk 0 30 0 0, Seat.mk 0 40 0 0, Seat.mk 0 50 0 0]).length), .v (.int .i64 10), .v (.int .i64 15), .v (.slice none 0 0), .v (.slice none 0 0)]) rfl rfl rfl rfl (.loadP ty26 rfl rfl rfl) ?_
  refine RunT.ot0 (x := .agg [.v (.int .i64 2), .v (.int .i64 1)]) rfl rfl rfl rfl (.loadP ty66 rfl rfl rfl) ?_
  obtain ⟨r1, h2, H⟩ := bs H
  refine RunT.ot0 (x := .tup [.lst (List.map eI r1.1), .v (.bool r1.2)]) rfl rfl rfl rfl (.callp (PC.frozen (place_Seats_pc false k (Venue.mk [Seat.mk 0 0 0 0, Seat.mk 0 10 0 2, Seat.mk 0 20 0 1, Seat.mk 0 30 0 0, Seat.mk 0 40 0 0, Seat.mk 0 50 0 0] 10 15 [] []) (Party.mk 2 1) 1 r1 h2)) rfl ⟨(.agg' ⟨(.all rfl (List.length_map _).symm), .v, .v, .nil, .nil, trivial⟩), (.agg' ⟨.v, .v, trivial⟩), (.one .v), trivial⟩ rfl rfl rfl) ?_
  refine RunT.ot0 (x := .tup [.lst (List.map eI r1.1), .v (.bool r1.2)]) rfl rfl rfl rfl (.moveX rfl) ?_
  refine RunT.ot0 (x := .lst (List.map eI r1.1)) rfl rfl rfl rfl (.extract rfl rfl) ?_
  refine RunT.ot0 (x := .v (.bool r1.2)) rfl rfl rfl rfl (.extract rfl rfl) ?_
  refine RunT.ot0 (x := .lst (List.map eI r1.1)) rfl rfl rfl rfl (.assignX rfl) ?_
  refine RunT.ot0 (x := .v (.bool r1.2)) rfl rfl rfl rfl (.assignX rfl) ?_
  refine RunT.nil ?_
  refine T.seq ?_
  refine T.region ?_
  refine RunT.ot0 (x := .agg [.own 0 0 (([Seat.mk 0 0 0 0, Seat.mk 0 10 0 2, Seat.mk 0 20 0 1, Seat.mk 0 30 0 0, Seat.mk 0 40 0 0, Seat.mk 0 50 0 0]).length), .v (.int .i64 10), .v (.int .i64 15), .v (.slice none 0 0), .v (.slice none 0 0)]) rfl rfl rfl rfl (.loadP ty26 rfl rfl rfl) ?_
  refine RunT.ot0 (x := .agg [.v (.int .i64 1), .v (.int .i64 0)]) rfl rfl rfl rfl (.loadP ty66 rfl rfl rfl) ?_
  obtain ⟨r3, h4, H⟩ := bs H
  refine RunT.ot0 (x := .v (.bool r3)) rfl rfl rfl rfl (.callp (place_May_pc false k (Venue.mk [Seat.mk 0 0 0 0, Seat.mk 0 10 0 2, Seat.mk 0 20 0 1, Seat.mk 0 30 0 0, Seat.mk 0 40 0 0, Seat.mk 0 50 0 0] 10 15 [] []) (Party.mk 1 0) 0 r3 h4) rfl ⟨(.agg' ⟨(.all rfl (List.length_map _).symm), .v, .v, .nil, .nil, trivial⟩), (.agg' ⟨.v, .v, trivial⟩), (.one .v), trivial⟩ rfl rfl rfl) ?_
  refine RunT.ot0 (x := .v (.bool r3)) rfl rfl rfl rfl (.moveX rfl) ?_
  refine RunT.cases (t := 27) (c := r3) rfl (fun g5 => ?_) (fun g5 => ?_)
  · replace H := ct H g5
    refine RunT.gt0 (x := .agg [.own 0 0 (([Seat.mk 0 0 0 0, Seat.mk 0 10 0 2, Seat.mk 0 20 0 1, Seat.mk 0 30 0 0, Seat.mk 0 40 0 0, Seat.mk 0 50 0 0]).length), .v (.int .i64 10), .v (.int .i64 15), .v (.slice none 0 0), .v (.slice none 0 0)]) rfl rfl rfl (bo g5) rfl rfl (.loadP ty26 rfl rfl rfl) ?_
    refine RunT.gt0 (x := .agg [.v (.int .i64 1), .v (.int .i64 0)]) rfl rfl rfl (bo g5) rfl rfl (.loadP ty66 rfl rfl rfl) ?_
    obtain ⟨r6, h7, H⟩ := bs H
    refine RunT.gt0 (x := .v (.bool r6)) rfl rfl rfl (bo g5) rfl rfl (.callp (place_May_pc false k (Venue.mk [Seat.mk 0 0 0 0, Seat.mk 0 10 0 2, Seat.mk 0 20 0 1, Seat.mk 0 30 0 0, Seat.mk 0 40 0 0, Seat.mk 0 50 0 0] 10 15 [] []) (Party.mk 1 0) 1 r6 h7) rfl ⟨(.agg' ⟨(.all rfl (List.length_map _).symm), .v, .v, .nil, .nil, trivial⟩), (.agg' ⟨.v, .v, trivial⟩), (.one .v), trivial⟩ rfl rfl rfl) ?_
    refine RunT.gt0 (x := .v (.bool (!r6))) rfl rfl rfl (bo g5) rfl rfl (.un rfl (fun w => u_not w) rfl) ?_
    refine RunT.ot0 (x := .v (.bool (!r6))) rfl rfl rfl rfl (.pickT (bo g5) rfl) ?_
    refine RunT.ot0 (x := .v (.bool (!r6))) rfl rfl rfl rfl (.moveX rfl) ?_
    refine RunT.cases (t := 33) (c := !r6) rfl (fun g8 => ?_) (fun g8 => ?_)
    · replace H := ct H g8
      refine RunT.gt0 (x := .agg [.own 0 0 (([Seat.mk 0 0 0 0, Seat.mk 0 10 0 2, Seat.mk 0 20 0 1, Seat.mk 0 30 0 0, Seat.mk 0 40 0 0, Seat.mk 0 50 0 0]).length), .v (.int .i64 10), .v (.int .i64 15), .v (.slice none 0 0), .v (.slice none 0 0)]) rfl rfl rfl (bo g8) rfl rfl (.loadP ty26 rfl rfl rfl) ?_
      refine RunT.gt0 (x := .agg [.v (.int .i64 1), .v (.int .i64 0)]) rfl rfl rfl (bo g8) rfl rfl (.loadP ty66 rfl rfl rfl) ?_
      obtain ⟨r9, h10, H⟩ := bs H
      refine RunT.gt0 (x := .v (.bool r9)) rfl rfl rfl (bo g8) rfl rfl (.callp (place_May_pc false k (Venue.mk [Seat.mk 0 0 0 0, Seat.mk 0 10 0 2, Seat.mk 0 20 0 1, Seat.mk 0 30 0 0, Seat.mk 0 40 0 0, Seat.mk 0 50 0 0] 10 15 [] []) (Party.mk 1 0) 2 r9 h10) rfl ⟨(.agg' ⟨(.all rfl (List.length_map _).symm), .v, .v, .nil, .nil, trivial⟩), (.agg' ⟨.v, .v, trivial⟩), (.one .v), trivial⟩ rfl rfl rfl) ?_
      refine RunT.gt0 (x := .v (.bool (!r9))) rfl rfl rfl (bo g8) rfl rfl (.un rfl (fun w => u_not w) rfl) ?_
      refine RunT.ot0 (x := .v (.bool (!r9))) rfl rfl rfl rfl (.pickT (bo g8) rfl) ?_
      refine RunT.ot0 (x := .v (.bool (!r9))) rfl rfl rfl rfl (.moveX rfl) ?_
      refine RunT.cases (t := 39) (c := !r9) rfl (fun g11 => ?_) (fun g11 => ?_)
      · replace H := ct H g11
        refine RunT.gt0 (x := .agg [.own 0 0 (([Seat.mk 0 0 0 0, Seat.mk 0 10 0 2, Seat.mk 0 20 0 1, Seat.mk 0 30 0 0, Seat.mk 0 40 0 0, Seat.mk 0 50 0 0]).length), .v (.int .i64 10), .v (.int .i64 15), .v (.slice none 0 0), .v (.slice none 0 0)]) rfl rfl rfl (bo g11) rfl rfl (.loadP ty26 rfl rfl rfl) ?_
        refine RunT.gt0 (x := .agg [.v (.int .i64 2), .v (.int .i64 1)]) rfl rfl rfl (bo g11) rfl rfl (.loadP ty66 rfl rfl rfl) ?_
        obtain ⟨r12, h13, H⟩ := bs H
        refine RunT.gt0 (x := .v (.bool r12)) rfl rfl rfl (bo g11) rfl rfl (.callp (place_May_pc false k (Venue.mk [Seat.mk 0 0 0 0, Seat.mk 0 10 0 2, Seat.mk 0 20 0 1, Seat.mk 0 30 0 0, Seat.mk 0 40 0 0, Seat.mk 0 50 0 0] 10 15 [] []) (Party.mk 2 1) 1 r12 h13) rfl ⟨(.agg' ⟨(.all rfl (List.length_map _).symm), .v, .v, .nil, .nil, trivial⟩), (.agg' ⟨.v, .v, trivial⟩), (.one .v), trivial⟩ rfl rfl rfl) ?_
        refine RunT.ot0 (x := .v (.bool r12)) rfl rfl rfl rfl (.pickT (bo g11) rfl) ?_
        refine RunT.ot0 (x := .v (.bool r12)) rfl rfl rfl rfl (.moveX rfl) ?_
        refine RunT.cases (t := 44) (c := r12) rfl (fun g14 => ?_) (fun g14 => ?_)
        · replace H := ct H g14
          refine RunT.gt0 (x := .agg [.own 0 0 (([Seat.mk 0 0 0 0, Seat.mk 0 10 0 2, Seat.mk 0 20 0 1, Seat.mk 0 30 0 0, Seat.mk 0 40 0 0, Seat.mk 0 50 0 0]).length), .v (.int .i64 10), .v (.int .i64 15), .v (.slice none 0 0), .v (.slice none 0 0)]) rfl rfl rfl (bo g14) rfl rfl (.loadP ty26 rfl rfl rfl) ?_
          refine RunT.gt0 (x := .agg [.v (.int .i64 2), .v (.int .i64 1)]) rfl rfl rfl (bo g14) rfl rfl (.loadP ty66 rfl rfl rfl) ?_
          obtain ⟨r15, h16, H⟩ := bs H
          refine RunT.gt0 (x := .v (.bool r15)) rfl rfl rfl (bo g14) rfl rfl (.callp (place_May_pc false k (Venue.mk [Seat.mk 0 0 0 0, Seat.mk 0 10 0 2, Seat.mk 0 20 0 1, Seat.mk 0 30 0 0, Seat.mk 0 40 0 0, Seat.mk 0 50 0 0] 10 15 [] []) (Party.mk 2 1) 2 r15 h16) rfl ⟨(.agg' ⟨(.all rfl (List.length_map _).symm), .v, .v, .nil, .nil, trivial⟩), (.agg' ⟨.v, .v, trivial⟩), (.one .v), trivial⟩ rfl rfl rfl) ?_
          refine RunT.gt0 (x := .v (.bool (!r15))) rfl rfl rfl (bo g14) rfl rfl (.un rfl (fun w => u_not w) rfl) ?_
          refine RunT.ot0 (x := .v (.bool (!r15))) rfl rfl rfl rfl (.pickT (bo g14) rfl) ?_
          refine RunT.ot0 (x := .v (.bool (!r15))) rfl rfl rfl rfl (.moveX rfl) ?_
          refine RunT.cases (t := 50) (c := !r15) rfl (fun g17 => ?_) (fun g17 => ?_)
          · replace H := ct H g17
            refine RunT.gt0 (x := .v (.bool r1.2)) rfl rfl rfl (bo g17) rfl rfl (.moveX rfl) ?_
            refine RunT.ot0 (x := .v (.bool r1.2)) rfl rfl rfl rfl (.pickT (bo g17) rfl) ?_
            refine RunT.ot0 (x := .v (.bool r1.2)) rfl rfl rfl rfl (.moveX rfl) ?_
            refine RunT.cases (t := 53) (c := r1.2) rfl (fun g18 => ?_) (fun g18 => ?_)
            · replace H := ct H g18
              refine RunT.gt0 (x := .lst (List.map eI r1.1)) rfl rfl rfl (bo g18) rfl rfl (.moveX rfl) ?_
              refine RunT.gt0 (x := .v (.int .i64 (r1.1.length : Int))) rfl rfl rfl (bo g18) rfl rfl (.lenLm Try.underlying23 rfl rfl) ?_
              refine RunT.gt0 (x := .v (.bool (decide ((r1.1.length : Int) = 2)))) rfl rfl rfl (bo g18) rfl rfl (.bin rfl rfl (fun w => b_eql w) rfl) ?_
              refine RunT.ot0 (x := .v (.bool (decide ((r1.1.length : Int) = 2)))) rfl rfl rfl rfl (.pickT (bo g18) rfl) ?_
              refine RunT.ot0 (x := .v (.bool (decide ((r1.1.length : Int) = 2)))) rfl rfl rfl rfl (.moveX rfl) ?_
              refine RunT.cases (t := 58) (c := decide ((r1.1.length : Int) = 2)) rfl (fun g19 => ?_) (fun g19 => ?_)
              · replace H := ct H g19
                refine RunT.gt0 (x := .lst (List.map eI r1.1)) rfl rfl rfl (bo g19) rfl rfl (.moveX rfl) ?_
                obtain ⟨y20, h21, H⟩ := bs H
                refine RunT.gt0 (x := .rptr [.v (.int .i64 y20)]) rfl rfl rfl (bo g19) rfl rfl (.idxLX h21 enc_I sl23 rfl rfl rfl) ?_
                refine RunT.gt0 (x := .v (.int .i64 y20)) rfl rfl rfl (bo g19) rfl rfl (.loadR ty3 rfl rfl) ?_
                refine RunT.gt0 (x := .v (.bool (decide (y20 = 2)))) rfl rfl rfl (bo g19) rfl rfl (.bin rfl rfl (fun w => b_eql w) rfl) ?_
                refine RunT.ot0 (x := .v (.bool (decide (y20 = 2)))) rfl rfl rfl rfl (.pickT (bo g19) rfl) ?_
                refine RunT.ot0 (x := .v (.bool (decide (y20 = 2)))) rfl rfl rfl rfl (.moveX rfl) ?_
                refine RunT.cases (t := 64) (c := decide (y20 = 2)) rfl (fun g22 => ?_) (fun g22 => ?_)
                · replace H := ct H g22
                  refine RunT.gt0 (x := .agg [.own 0 0 (([Seat.mk 0 0 0 0, Seat.mk 0 10 0 2, Seat.mk 0 20 0 1, Seat.mk 0 30 0 0, Seat.mk 0 40 0 0, Seat.mk 0 50 0 0]).length), .v (.int .i64 10), .v (.int .i64 15), .v (.slice none 0 0), .v (.slice none 0 0)]) rfl rfl rfl (bo g22) rfl rfl (.loadP ty26 rfl rfl rfl) ?_
                  refine RunT.gt0 (x := .agg [.v (.int .i64 1), .v (.int .i64 0)]) rfl rfl rfl (bo g22) rfl rfl (.loadP ty66 rfl rfl rfl) ?_
                  obtain ⟨r23, h24, H⟩ := bs H
                  refine RunT.gt0 (x := .lst (List.map eI r23)) rfl rfl rfl (bo g22) rfl rfl (.callp (PC.frozen (place_All_pc false k (Venue.mk [Seat.mk 0 0 0 0, Seat.mk 0 10 0 2, Seat.mk 0 20 0 1, Seat.mk 0 30 0 0, Seat.mk 0 40 0 0, Seat.mk 0 50 0 0] 10 15 [] []) (Party.mk 1 0) r23 h24)) rfl ⟨(.agg' ⟨(.all rfl (List.length_map _).symm), .v, .v, .nil, .nil, trivial⟩), (.agg' ⟨.v, .v, trivial⟩), trivial⟩ rfl rfl rfl) ?_
                  refine RunT.gt1 (x := .own 72 0 (([0, 3, 4, 5]).length)) (p0 := (72, some (.arr false 1 (List.map eI [0, 3, 4, 5])))) (n' := 80) rfl rfl rfl (bo g22) rfl rfl (.bslicem (d := false) (l := [0, 3, 4, 5]) (f := eI) sl23 rfl rfl rfl enc_I rfl) rfl ?_
                  obtain ⟨r25, h26, H⟩ := bs H
                  refine RunT.gt0 (x := .v (.bool r25)) rfl rfl rfl (bo g22) rfl rfl (.callp (ref6_SameInts_pc false k r23 [0, 3, 4, 5] r25 h26) rfl ⟨(.one .lst), (.one (.all rfl (List.length_map _).symm)), trivial⟩ rfl rfl rfl) ?_
                  refine RunT.ot0 (x := .v (.bool r25)) rfl rfl rfl rfl (.pickT (bo g22) rfl) ?_
                  refine RunT.ot0 (x := .v (.bool r25)) rfl rfl rfl rfl (.moveX rfl) ?_
                  refine RunT.cases (t := 71) (c := r25) rfl (fun g27 => ?_) (fun g27 => ?_)
                  · replace H := ct H g27
                    refine RunT.gt0 (x := .agg [.own 0 0 (([Seat.mk 0 0 0 0, Seat.mk 0 10 0 2, Seat.mk 0 20 0 1, Seat.mk 0 30 0 0, Seat.mk 0 40 0 0, Seat.mk 0 50 0 0]).length), .v (.int .i64 10), .v (.int .i64 15), .v (.slice none 0 0), .v (.slice none 0 0)]) rfl rfl rfl (bo g27) rfl rfl (.loadP ty26 rfl rfl rfl) ?_
                    refine RunT.gt0 (x := .agg [.v (.int .i64 2), .v (.int .i64 0)]) rfl rfl rfl (bo g27) rfl rfl (.loadP ty66 rfl rfl rfl) ?_
                    obtain ⟨r28, h29, H⟩ := bs H
                    refine RunT.gt0 (x := .lst (List.map eI r28)) rfl rfl rfl (bo g27) rfl rfl (.callp (PC.frozen (place_All_pc false k (Venue.mk [Seat.mk 0 0 0 0, Seat.mk 0 10 0 2, Seat.mk 0 20 0 1, Seat.mk 0 30 0 0, Seat.mk 0 40 0 0, Seat.mk 0 50 0 0] 10 15 [] []) (Party.mk 2 0) r28 h29)) rfl ⟨(.agg' ⟨(.all rfl (List.length_map _).symm), .v, .v, .nil, .nil, trivial⟩), (.agg' ⟨.v, .v, trivial⟩), trivial⟩ rfl rfl rfl) ?_
                    refine RunT.gt1 (x := .own 80 0 (([3, 4]).length)) (p0 := (80, some (.arr false 1 (List.map eI [3, 4])))) (n' := 88) rfl rfl rfl (bo g27) rfl rfl (.bslicem (d := false) (l := [3, 4]) (f := eI) sl23 rfl rfl rfl enc_I rfl) rfl ?_
                    obtain ⟨r30, h31, H⟩ := bs H
                    refine RunT.gt0 (x := .v (.bool r30)) rfl rfl rfl (bo g27) rfl rfl (.callp (ref6_SameInts_pc false k r28 [3, 4] r30 h31) rfl ⟨(.one .lst), (.one (.all rfl (List.length_map _).symm)), trivial⟩ rfl rfl rfl) ?_
                    refine RunT.ot0 (x := .v (.bool r30)) rfl rfl rfl rfl (.pickT (bo g27) rfl) ?_
                    refine RunT.ot0 (x := .v (.bool r30)) rfl rfl rfl rfl (.moveX rfl) ?_
                    refine RunT.cases (t := 78) (c := r30) rfl (fun g32 => ?_) (fun g32 => ?_)
                    · replace H := ct H g32
                      refine RunT.gt0 (x := .agg [.own 0 0 (([Seat.mk 0 0 0 0, Seat.mk 0 10 0 2, Seat.mk 0 20 0 1, Seat.mk 0 30 0 0, Seat.mk 0 40 0 0, Seat.mk 0 50 0 0]).length), .v (.int .i64 10), .v (.int .i64 15), .v (.slice none 0 0), .v (.slice none 0 0)]) rfl rfl rfl (bo g32) rfl rfl (.loadP ty26 rfl rfl rfl) ?_
                      refine RunT.gt0 (x := .agg [.v (.int .i64 2), .v (.int .i64 1)]) rfl rfl rfl (bo g32) rfl rfl (.loadP ty66 rfl rfl rfl) ?_
                      obtain ⟨r33, h34, H⟩ := bs H
                      refine RunT.gt0 (x := .lst (List.map eI r33)) rfl rfl rfl (bo g32) rfl rfl (.callp (PC.frozen (place_All_pc false k (Venue.mk [Seat.mk 0 0 0 0, Seat.mk 0 10 0 2, Seat.mk 0 20 0 1, Seat.mk 0 30 0 0, Seat.mk 0 40 0 0, Seat.mk 0 50 0 0] 10 15 [] []) (Party.mk 2 1) r33 h34)) rfl ⟨(.agg' ⟨(.all rfl (List.length_map _).symm), .v, .v, .nil, .nil, trivial⟩), (.agg' ⟨.v, .v, trivial⟩), trivial⟩ rfl rfl rfl) ?_
                      refine RunT.gt1 (x := .own 88 0 (([1]).length)) (p0 := (88, some (.arr false 1 (List.map eI [1])))) (n' := 96) rfl rfl rfl (bo g32) rfl rfl (.bslicem (d := false) (l := [1]) (f := eI) sl23 rfl rfl rfl enc_I rfl) rfl ?_
                      obtain ⟨r35, h36, H⟩ := bs H
                      refine RunT.gt0 (x := .v (.bool r35)) rfl rfl rfl (bo g32) rfl rfl (.callp (ref6_SameInts_pc false k r33 [1] r35 h36) rfl ⟨(.one .lst), (.one (.all rfl (List.length_map _).symm)), trivial⟩ rfl rfl rfl) ?_
                      refine RunT.ot0 (x := .v (.bool r35)) rfl rfl rfl rfl (.pickT (bo g32) rfl) ?_
                      refine RunT.ot0 (x := .v (.bool r35)) rfl rfl rfl rfl (.moveX rfl) ?_
                      refine RunT.cases (t := 85) (c := r35) rfl (fun g37 => ?_) (fun g37 => ?_)
                      · replace H := ct H g37
                        refine RunT.gt0 (x := .agg [.own 0 0 (([Seat.mk 0 0 0 0, Seat.mk 0 10 0 2, Seat.mk 0 20 0 1, Seat.mk 0 30 0 0, Seat.mk 0 40 0 0, Seat.mk 0 50 0 0]).length), .v (.int .i64 10), .v (.int .i64 15), .v (.slice none 0 0), .v (.slice none 0 0)]) rfl rfl rfl (bo g37) rfl rfl (.loadP ty26 rfl rfl rfl) ?_
                        refine RunT.gt0 (x := .agg [.v (.int .i64 1), .v (.int .i64 0)]) rfl rfl rfl (bo g37) rfl rfl (.loadP ty66 rfl rfl rfl) ?_
                        refine RunT.gt0 (x := .agg [.v (.int .i64 1), .v (.int .i64 0)]) rfl rfl rfl (bo g37) rfl rfl (.loadP ty66 rfl rfl rfl) ?_
                        obtain ⟨r38, h39, H⟩ := bs H
                        refine RunT.gt0 (x := .v (.bool r38)) rfl rfl rfl (bo g37) rfl rfl (.callp (place_Apart_pc false k (Venue.mk [Seat.mk 0 0 0 0, Seat.mk 0 10 0 2, Seat.mk 0 20 0 1, Seat.mk 0 30 0 0, Seat.mk 0 40 0 0, Seat.mk 0 50 0 0] 10 15 [] []) (Party.mk 1 0) 0 (Party.mk 1 0) 3 r38 h39) rfl ⟨(.agg' ⟨(.all rfl (List.length_map _).symm), .v, .v, .nil, .nil, trivial⟩), (.agg' ⟨.v, .v, trivial⟩), (.one .v), (.agg' ⟨.v, .v, trivial⟩), (.one .v), trivial⟩ rfl rfl rfl) ?_
                        refine RunT.ot0 (x := .v (.bool r38)) rfl rfl rfl rfl (.pickT (bo g37) rfl) ?_
                        refine RunT.ot0 (x := .v (.bool r38)) rfl rfl rfl rfl (.moveX rfl) ?_
                        refine RunT.cases (t := 91) (c := r38) rfl (fun g40 => ?_) (fun g40 => ?_)
                        · replace H := ct H g40
                          refine RunT.gt0 (x := .agg [.own 0 0 (([Seat.mk 0 0 0 0, Seat.mk 0 10 0 2, Seat.mk 0 20 0 1, Seat.mk 0 30 0 0, Seat.mk 0 40 0 0, Seat.mk 0 50 0 0]).length), .v (.int .i64 10), .v (.int .i64 15), .v (.slice none 0 0), .v (.slice none 0 0)]) rfl rfl rfl (bo g40) rfl rfl (.loadP ty26 rfl rfl rfl) ?_
                          refine RunT.gt0 (x := .agg [.v (.int .i64 1), .v (.int .i64 0)]) rfl rfl rfl (bo g40) rfl rfl (.loadP ty66 rfl rfl rfl) ?_
                          refine RunT.gt0 (x := .agg [.v (.int .i64 1), .v (.int .i64 0)]) rfl rfl rfl (bo g40) rfl rfl (.loadP ty66 rfl rfl rfl) ?_
                          obtain ⟨r41, h42, H⟩ := bs H
                          refine RunT.gt0 (x := .v (.bool r41)) rfl rfl rfl (bo g40) rfl rfl (.callp (place_Apart_pc false k (Venue.mk [Seat.mk 0 0 0 0, Seat.mk 0 10 0 2, Seat.mk 0 20 0 1, Seat.mk 0 30 0 0, Seat.mk 0 40 0 0, Seat.mk 0 50 0 0] 10 15 [] []) (Party.mk 1 0) 3 (Party.mk 1 0) 4 r41 h42) rfl ⟨(.agg' ⟨(.all rfl (List.length_map _).symm), .v, .v, .nil, .nil, trivial⟩), (.agg' ⟨.v, .v, trivial⟩), (.one .v), (.agg' ⟨.v, .v, trivial⟩), (.one .v), trivial⟩ rfl rfl rfl) ?_
                          refine RunT.gt0 (x := .v (.bool (!r41))) rfl rfl rfl (bo g40) rfl rfl (.un rfl (fun w => u_not w) rfl) ?_
                          refine RunT.ot0 (x := .v (.bool (!r41))) rfl rfl rfl rfl (.pickT (bo g40) rfl) ?_
                          refine RunT.ot0 (x := .v (.bool (!r41))) rfl rfl rfl rfl (.moveX rfl) ?_
                          refine RunT.cases (t := 98) (c := !r41) rfl (fun g43 => ?_) (fun g43 => ?_)
                          · replace H := ct H g43
                            refine RunT.gt0 (x := .agg [.own 0 0 (([Seat.mk 0 0 0 0, Seat.mk 0 10 0 2, Seat.mk 0 20 0 1, Seat.mk 0 30 0 0, Seat.mk 0 40 0 0, Seat.mk 0 50 0 0]).length), .v (.int .i64 10), .v (.int .i64 15), .v (.slice none 0 0), .v (.slice none 0 0)]) rfl rfl rfl (bo g43) rfl rfl (.loadP ty26 rfl rfl rfl) ?_
                            refine RunT.gt0 (x := .agg [.v (.int .i64 1), .v (.int .i64 0)]) rfl rfl rfl (bo g43) rfl rfl (.loadP ty66 rfl rfl rfl) ?_
                            refine RunT.gt0 (x := .agg [.v (.int .i64 1), .v (.int .i64 0)]) rfl rfl rfl (bo g43) rfl rfl (.loadP ty66 rfl rfl rfl) ?_
                            obtain ⟨r44, h45, H⟩ := bs H
                            refine RunT.gt0 (x := .v (.bool r44)) rfl rfl rfl (bo g43) rfl rfl (.callp (place_Apart_pc false k (Venue.mk [Seat.mk 0 0 0 0, Seat.mk 0 10 0 2, Seat.mk 0 20 0 1, Seat.mk 0 30 0 0, Seat.mk 0 40 0 0, Seat.mk 0 50 0 0] 10 15 [] []) (Party.mk 1 0) 3 (Party.mk 1 0) 5 r44 h45) rfl ⟨(.agg' ⟨(.all rfl (List.length_map _).symm), .v, .v, .nil, .nil, trivial⟩), (.agg' ⟨.v, .v, trivial⟩), (.one .v), (.agg' ⟨.v, .v, trivial⟩), (.one .v), trivial⟩ rfl rfl rfl) ?_
                            refine RunT.ot0 (x := .v (.bool r44)) rfl rfl rfl rfl (.pickT (bo g43) rfl) ?_
                            refine RunT.ot0 (x := .v (.bool r44)) rfl rfl rfl rfl (.moveX rfl) ?_
                            refine RunT.cases (t := 104) (c := r44) rfl (fun g46 => ?_) (fun g46 => ?_)
                            · replace H := ct H g46
                              refine RunT.gt0 (x := .agg [.own 0 0 (([Seat.mk 0 0 0 0, Seat.mk 0 10 0 2, Seat.mk 0 20 0 1, Seat.mk 0 30 0 0, Seat.mk 0 40 0 0, Seat.mk 0 50 0 0]).length), .v (.int .i64 10), .v (.int .i64 15), .v (.slice none 0 0), .v (.slice none 0 0)]) rfl rfl rfl (bo g46) rfl rfl (.loadP ty26 rfl rfl rfl) ?_
                              refine RunT.gt0 (x := .agg [.v (.int .i64 1), .v (.int .i64 0)]) rfl rfl rfl (bo g46) rfl rfl (.loadP ty66 rfl rfl rfl) ?_
                              refine RunT.gt0 (x := .agg [.v (.int .i64 1), .v (.int .i64 0)]) rfl rfl rfl (bo g46) rfl rfl (.loadP ty66 rfl rfl rfl) ?_
                              obtain ⟨r47, h48, H⟩ := bs H
                              refine RunT.gt0 (x := .v (.bool r47)) rfl rfl rfl (bo g46) rfl rfl (.callp (place_Apart_pc false k (Venue.mk [Seat.mk 0 0 0 0, Seat.mk 0 10 0 2, Seat.mk 0 20 0 1, Seat.mk 0 30 0 0, Seat.mk 0 40 0 0, Seat.mk 0 50 0 0] 10 15 [] []) (Party.mk 1 0) 3 (Party.mk 1 0) 3 r47 h48) rfl ⟨(.agg' ⟨(.all rfl (List.length_map _).symm), .v, .v, .nil, .nil, trivial⟩), (.agg' ⟨.v, .v, trivial⟩), (.one .v), (.agg' ⟨.v, .v, trivial⟩), (.one .v), trivial⟩ rfl rfl rfl) ?_
                              refine RunT.gt0 (x := .v (.bool (!r47))) rfl rfl rfl (bo g46) rfl rfl (.un rfl (fun w => u_not w) rfl) ?_
                              refine RunT.ot0 (x := .v (.bool (!r47))) rfl rfl rfl rfl (.pickT (bo g46) rfl) ?_
                              refine RunT.ot0 (x := .v (.bool (!r47))) rfl rfl rfl rfl (.moveX rfl) ?_
                              refine RunT.cases (t := 111) (c := !r47) rfl (fun g49 => ?_) (fun g49 => ?_)
                              · replace H := ct H g49
                                refine RunT.gt0 (x := .agg [.v (.slice none 0 0), .v (.int .i64 0), .v (.int .i64 0), .v (.slice none 0 0), .v (.slice none 0 0)]) rfl rfl rfl (bo g49) rfl rfl (.bu bu26 rfl) ?_
                                refine RunT.gt0 (x := .agg [.v (.int .i64 1), .v (.int .i64 0)]) rfl rfl rfl (bo g49) rfl rfl (.loadP ty66 rfl rfl rfl) ?_
                                obtain ⟨r50, h51, H⟩ := bs H
                                refine RunT.gt0 (x := .v (.bool r50)) rfl rfl rfl (bo g49) rfl rfl (.callp (place_May_pc false k (Venue.mk [] 0 0 [] []) (Party.mk 1 0) 0 r50 h51) rfl ⟨(.agg' ⟨.nil, .v, .v, .nil, .nil, trivial⟩), (.agg' ⟨.v, .v, trivial⟩), (.one .v), trivial⟩ rfl rfl rfl) ?_
                                refine RunT.gt0 (x := .v (.bool (!r50))) rfl rfl rfl (bo g49) rfl rfl (.un rfl (fun w => u_not w) rfl) ?_
                                refine RunT.ot0 (x := .v (.bool (!r50))) rfl rfl rfl rfl (.pickT (bo g49) rfl) ?_
                                refine RunT.ot0 (x := .v (.bool (!r50))) rfl rfl rfl rfl (.assignX rfl) ?_
                                refine RunT.nil ?_
                                obtain rfl := si H
                                refine T.sub (sub_to (st' := ⟨[(0, .v (.bool (!r50)))], [], 8, []⟩) [] (by decide) rfl rfl (⟨⟨_, rfl, .one .v⟩, trivial⟩) (trivial)) ?_
                                refine T.ret ?_
                                exact RetOk.same [.v (.bool (!r50))] ⟨rfl, trivial⟩ rfl rfl rfl
                              · replace H := cf H g49
                                refine RunT.xn rfl rfl rfl (bo g49) rfl rfl ?_
                                refine RunT.xn rfl rfl rfl (bo g49) rfl rfl ?_
                                refine RunT.xn rfl rfl rfl (bo g49) rfl rfl ?_
                                refine RunT.xn rfl rfl rfl (bo g49) rfl rfl ?_
                                refine RunT.ot0 (x := .v (.bool false)) rfl rfl rfl rfl (.pickF (bo g49) rfl) ?_
                                refine RunT.ot0 (x := .v (.bool false)) rfl rfl rfl rfl (.assignX rfl) ?_
                                refine RunT.nil ?_
                                obtain rfl := si H
                                refine T.sub (sub_to (st' := ⟨[(0, .v (.bool false))], [], 8, []⟩) [] (by decide) rfl rfl (⟨⟨_, rfl, .one .v⟩, trivial⟩) (trivial)) ?_
                                refine T.ret ?_
                                exact RetOk.same [.v (.bool false)] ⟨rfl, trivial⟩ rfl rfl rfl
                            · replace H := cf H g46
                              refine RunT.xn rfl rfl rfl (bo g46) rfl rfl ?_
                              refine RunT.xn rfl rfl rfl (bo g46) rfl rfl ?_
                              refine RunT.xn rfl rfl rfl (bo g46) rfl rfl ?_
                              refine RunT.xn rfl rfl rfl (bo g46) rfl rfl ?_
                              refine RunT.xn rfl rfl rfl (bo g46) rfl rfl ?_
                              refine RunT.ot0 (x := .v (.bool false)) rfl rfl rfl rfl (.pickF (bo g46) rfl) ?_
                              refine RunT.ot0 (x := .v (.bool false)) rfl rfl rfl rfl (.moveX rfl) ?_
                              refine RunT.xn rfl rfl rfl rfl rfl rfl ?_
                              refine RunT.xn rfl rfl rfl rfl rfl rfl ?_
                              refine RunT.xn rfl rfl rfl rfl rfl rfl ?_
                              refine RunT.xn rfl rfl rfl rfl rfl rfl ?_
                              refine RunT.ot0 (x := .v (.bool false)) rfl rfl rfl rfl (.pickF rfl rfl) ?_
                              refine RunT.ot0 (x := .v (.bool false)) rfl rfl rfl rfl (.assignX rfl) ?_
                              refine RunT.nil ?_
                              obtain rfl := si H
                              refine T.sub (sub_to (st' := ⟨[(0, .v (.bool false))], [], 8, []⟩) [] (by decide) rfl rfl (⟨⟨_, rfl, .one .v⟩, trivial⟩) (trivial)) ?_
                              refine T.ret ?_
                              exact RetOk.same [.v (.bool false)] ⟨rfl, trivial⟩ rfl rfl rfl
                          · replace H := cf H g43
                            refine RunT.xn rfl rfl rfl (bo g43) rfl rfl ?_
                            refine RunT.xn rfl rfl rfl (bo g43) rfl rfl ?_
                            refine RunT.xn rfl rfl rfl (bo g43) rfl rfl ?_
                            refine RunT.xn rfl rfl rfl (bo g43) rfl rfl ?_
                            refine RunT.ot0 (x := .v (.bool false)) rfl rfl rfl rfl (.pickF (bo g43) rfl) ?_
                            refine RunT.ot0 (x := .v (.bool false)) rfl rfl rfl rfl (.moveX rfl) ?_
                            refine RunT.xn rfl rfl rfl rfl rfl rfl ?_
                            refine RunT.xn rfl rfl rfl rfl rfl rfl ?_
                            refine RunT.xn rfl rfl rfl rfl rfl rfl ?_
                            refine RunT.xn rfl rfl rfl rfl rfl rfl ?_
                            refine RunT.xn rfl rfl rfl rfl rfl rfl ?_
                            refine RunT.ot0 (x := .v (.bool false)) rfl rfl rfl rfl (.pickF rfl rfl) ?_
                            refine RunT.ot0 (x := .v (.bool false)) rfl rfl rfl rfl (.moveX rfl) ?_
                            refine RunT.xn rfl rfl rfl rfl rfl rfl ?_
                            refine RunT.xn rfl rfl rfl rfl rfl rfl ?_
                            refine RunT.xn rfl rfl rfl rfl rfl rfl ?_
                            refine RunT.xn rfl rfl rfl rfl rfl rfl ?_
                            refine RunT.ot0 (x := .v (.bool false)) rfl rfl rfl rfl (.pickF rfl rfl) ?_
                            refine RunT.ot0 (x := .v (.bool false)) rfl rfl rfl rfl (.assignX rfl) ?_
                            refine RunT.nil ?_
                            obtain rfl := si H
                            refine T.sub (sub_to (st' := ⟨[(0, .v (.bool false))], [], 8, []⟩) [] (by decide) rfl rfl (⟨⟨_, rfl, .one .v⟩, trivial⟩) (trivial)) ?_
                            refine T.ret ?_
                            exact RetOk.same [.v (.bool false)] ⟨rfl, trivial⟩ rfl rfl rfl
                        · replace H := cf H g40
                          refine RunT.xn rfl rfl rfl (bo g40) rfl rfl ?_
                          refine RunT.xn rfl rfl rfl (bo g40) rfl rfl ?_
                          refine RunT.xn rfl rfl rfl (bo g40) rfl rfl ?_
                          refine RunT.xn rfl rfl rfl (bo g40) rfl rfl ?_
                          refine RunT.xn rfl rfl rfl (bo g40) rfl rfl ?_
                          refine RunT.ot0 (x := .v (.bool false)) rfl rfl rfl rfl (.pickF (bo g40) rfl) ?_
                          refine RunT.ot0 (x := .v (.bool false)) rfl rfl rfl rfl (.moveX rfl) ?_
                          refine RunT.xn rfl rfl rfl rfl rfl rfl ?_
                          refine RunT.xn rfl rfl rfl rfl rfl rfl ?_
                          refine RunT.xn rfl rfl rfl rfl rfl rfl ?_
                          refine RunT.xn rfl rfl rfl rfl rfl rfl ?_
                          refine RunT.ot0 (x := .v (.bool false)) rfl rfl rfl rfl (.pickF rfl rfl) ?_
                          refine RunT.ot0 (x := .v (.bool false)) rfl rfl rfl rfl (.moveX rfl) ?_
                          refine RunT.xn rfl rfl rfl rfl rfl rfl ?_
                          refine RunT.xn rfl rfl rfl rfl rfl rfl ?_
                          refine RunT.xn rfl rfl rfl rfl rfl rfl ?_
                          refine RunT.xn rfl rfl rfl rfl rfl rfl ?_
                          refine RunT.xn rfl rfl rfl rfl rfl rfl ?_
                          refine RunT.ot0 (x := .v (.bool false)) rfl rfl rfl rfl (.pickF rfl rfl) ?_
                          refine RunT.ot0 (x := .v (.bool false)) rfl rfl rfl rfl (.moveX rfl) ?_
                          refine RunT.xn rfl rfl rfl rfl rfl rfl ?_
                          refine RunT.xn rfl rfl rfl rfl rfl rfl ?_
                          refine RunT.xn rfl rfl rfl rfl rfl rfl ?_
                          refine RunT.xn rfl rfl rfl rfl rfl rfl ?_
                          refine RunT.ot0 (x := .v (.bool false)) rfl rfl rfl rfl (.pickF rfl rfl) ?_
                          refine RunT.ot0 (x := .v (.bool false)) rfl rfl rfl rfl (.assignX rfl) ?_
                          refine RunT.nil ?_
                          obtain rfl := si H
                          refine T.sub (sub_to (st' := ⟨[(0, .v (.bool false))], [], 8, []⟩) [] (by decide) rfl rfl (⟨⟨_, rfl, .one .v⟩, trivial⟩) (trivial)) ?_
                          refine T.ret ?_
                          exact RetOk.same [.v (.bool false)] ⟨rfl, trivial⟩ rfl rfl rfl
                      · replace H := cf H g37
                        refine RunT.xn rfl rfl rfl (bo g37) rfl rfl ?_
                        refine RunT.xn rfl rfl rfl (bo g37) rfl rfl ?_
                        refine RunT.xn rfl rfl rfl (bo g37) rfl rfl ?_
                        refine RunT.xn rfl rfl rfl (bo g37) rfl rfl ?_
                        refine RunT.ot0 (x := .v (.bool false)) rfl rfl rfl rfl (.pickF (bo g37) rfl) ?_
                        refine RunT.ot0 (x := .v (.bool false)) rfl rfl rfl rfl (.moveX rfl) ?_
                        refine RunT.xn rfl rfl rfl rfl rfl rfl ?_
                        refine RunT.xn rfl rfl rfl rfl rfl rfl ?_
                        refine RunT.xn rfl rfl rfl rfl rfl rfl ?_
                        refine RunT.xn rfl rfl rfl rfl rfl rfl ?_
                        refine RunT.xn rfl rfl rfl rfl rfl rfl ?_
                        refine RunT.ot0 (x := .v (.bool false)) rfl rfl rfl rfl (.pickF rfl rfl) ?_
                        refine RunT.ot0 (x := .v (.bool false)) rfl rfl rfl rfl (.moveX rfl) ?_
                        refine RunT.xn rfl rfl rfl rfl rfl rfl ?_
                        refine RunT.xn rfl rfl rfl rfl rfl rfl ?_
                        refine RunT.xn rfl rfl rfl rfl rfl rfl ?_
                        refine RunT.xn rfl rfl rfl rfl rfl rfl ?_
                        refine RunT.ot0 (x := .v (.bool false)) rfl rfl rfl rfl (.pickF rfl rfl) ?_
                        refine RunT.ot0 (x := .v (.bool false)) rfl rfl rfl rfl (.moveX rfl) ?_
                        refine RunT.xn rfl rfl rfl rfl rfl rfl ?_
                        refine RunT.xn rfl rfl rfl rfl rfl rfl ?_
                        refine RunT.xn rfl rfl rfl rfl rfl rfl ?_
                        refine RunT.xn rfl rfl rfl rfl rfl rfl ?_
                        refine RunT.xn rfl rfl rfl rfl rfl rfl ?_
                        refine RunT.ot0 (x := .v (.bool false)) rfl rfl rfl rfl (.pickF rfl rfl) ?_
                        refine RunT.ot0 (x := .v (.bool false)) rfl rfl rfl rfl (.moveX rfl) ?_
                        refine RunT.xn rfl rfl rfl rfl rfl rfl ?_
                        refine RunT.xn rfl rfl rfl rfl rfl rfl ?_
                        refine RunT.xn rfl rfl rfl rfl rfl rfl ?_
                        refine RunT.xn rfl rfl rfl rfl rfl rfl ?_
                        refine RunT.ot0 (x := .v (.bool false)) rfl rfl rfl rfl (.pickF rfl rfl) ?_
                        refine RunT.ot0 (x := .v (.bool false)) rfl rfl rfl rfl (.assignX rfl) ?_
                        refine RunT.nil ?_
                        obtain rfl := si H
                        refine T.sub (sub_to (st' := ⟨[(0, .v (.bool false))], [], 8, []⟩) [] (by decide) rfl rfl (⟨⟨_, rfl, .one .v⟩, trivial⟩) (trivial)) ?_
                        refine T.ret ?_
                        exact RetOk.same [.v (.bool false)] ⟨rfl, trivial⟩ rfl rfl rfl
                    · replace H := cf H g32
                      refine RunT.xn rfl rfl rfl (bo g32) rfl rfl ?_
                      refine RunT.xn rfl rfl rfl (bo g32) rfl rfl ?_
                      refine RunT.xn rfl rfl rfl (bo g32) rfl rfl ?_
                      refine RunT.xn rfl rfl rfl (bo g32) rfl rfl ?_
                      refine RunT.xn rfl rfl rfl (bo g32) rfl rfl ?_
                      refine RunT.ot0 (x := .v (.bool false)) rfl rfl rfl rfl (.pickF (bo g32) rfl) ?_
                      refine RunT.ot0 (x := .v (.bool false)) rfl rfl rfl rfl (.moveX rfl) ?_
                      refine RunT.xn rfl rfl rfl rfl rfl rfl ?_
                      refine RunT.xn rfl rfl rfl rfl rfl rfl ?_
                      refine RunT.xn rfl rfl rfl rfl rfl rfl ?_
                      refine RunT.xn rfl rfl rfl rfl rfl rfl ?_
                      refine RunT.ot0 (x := .v (.bool false)) rfl rfl rfl rfl (.pickF rfl rfl) ?_
                      refine RunT.ot0 (x := .v (.bool false)) rfl rfl rfl rfl (.moveX rfl) ?_
                      refine RunT.xn rfl rfl rfl rfl rfl rfl ?_
                      refine RunT.xn rfl rfl rfl rfl rfl rfl ?_
                      refine RunT.xn rfl rfl rfl rfl rfl rfl ?_
                      refine RunT.xn rfl rfl rfl rfl rfl rfl ?_
                      refine RunT.xn rfl rfl rfl rfl rfl rfl ?_
                      refine RunT.ot0 (x := .v (.bool false)) rfl rfl rfl rfl (.pickF rfl rfl) ?_
                      refine RunT.ot0 (x := .v (.bool false)) rfl rfl rfl rfl (.moveX rfl) ?_
                      refine RunT.xn rfl rfl rfl rfl rfl rfl ?_
                      refine RunT.xn rfl rfl rfl rfl rfl rfl ?_
                      refine RunT.xn rfl rfl rfl rfl rfl rfl ?_
                      refine RunT.xn rfl rfl rfl rfl rfl rfl ?_
                      refine RunT.ot0 (x := .v (.bool false)) rfl rfl rfl rfl (.pickF rfl rfl) ?_
                      refine RunT.ot0 (x := .v (.bool false)) rfl rfl rfl rfl (.moveX rfl) ?_
                      refine RunT.xn rfl rfl rfl rfl rfl rfl ?_
                      refine RunT.xn rfl rfl rfl rfl rfl rfl ?_
                      refine RunT.xn rfl rfl rfl rfl rfl rfl ?_
                      refine RunT.xn rfl rfl rfl rfl rfl rfl ?_
                      refine RunT.xn rfl rfl rfl rfl rfl rfl ?_
                      refine RunT.ot0 (x := .v (.bool false)) rfl rfl rfl rfl (.pickF rfl rfl) ?_
                      refine RunT.ot0 (x := .v (.bool false)) rfl rfl rfl rfl (.moveX rfl) ?_
                      refine RunT.xn rfl rfl rfl rfl rfl rfl ?_
                      refine RunT.xn rfl rfl rfl rfl rfl rfl ?_
                      refine RunT.xn rfl rfl rfl rfl rfl rfl ?_
                      refine RunT.xn rfl rfl rfl rfl rfl rfl ?_
                      refine RunT.ot0 (x := .v (.bool false)) rfl rfl rfl rfl (.pickF rfl rfl) ?_
                      refine RunT.ot0 (x := .v (.bool false)) rfl rfl rfl rfl (.assignX rfl) ?_
                      refine RunT.nil ?_
                      obtain rfl := si H
                      refine T.sub (sub_to (st' := ⟨[(0, .v (.bool false))], [], 8, []⟩) [] (by decide) rfl rfl (⟨⟨_, rfl, .one .v⟩, trivial⟩) (trivial)) ?_
                      refine T.ret ?_
                      exact RetOk.same [.v (.bool false)] ⟨rfl, trivial⟩ rfl rfl rfl
                  · replace H := cf H g27
                    refine RunT.xn rfl rfl rfl (bo g27) rfl rfl ?_
                    refine RunT.xn rfl rfl rfl (bo g27) rfl rfl ?_
                    refine RunT.xn rfl rfl rfl (bo g27) rfl rfl ?_
                    refine RunT.xn rfl rfl rfl (bo g27) rfl rfl ?_
                    refine RunT.xn rfl rfl rfl (bo g27) rfl rfl ?_
                    refine RunT.ot0 (x := .v (.bool false)) rfl rfl rfl rfl (.pickF (bo g27) rfl) ?_
                    refine RunT.ot0 (x := .v (.bool false)) rfl rfl rfl rfl (.moveX rfl) ?_
                    refine RunT.xn rfl rfl rfl rfl rfl rfl ?_
                    refine RunT.xn rfl rfl rfl rfl rfl rfl ?_
                    refine RunT.xn rfl rfl rfl rfl rfl rfl ?_
                    refine RunT.xn rfl rfl rfl rfl rfl rfl ?_
                    refine RunT.xn rfl rfl rfl rfl rfl rfl ?_
                    refine RunT.ot0 (x := .v (.bool false)) rfl rfl rfl rfl (.pickF rfl rfl) ?_
                    refine RunT.ot0 (x := .v (.bool false)) rfl rfl rfl rfl (.moveX rfl) ?_
                    refine RunT.xn rfl rfl rfl rfl rfl rfl ?_
                    refine RunT.xn rfl rfl rfl rfl rfl rfl ?_
                    refine RunT.xn rfl rfl rfl rfl rfl rfl ?_
                    refine RunT.xn rfl rfl rfl rfl rfl rfl ?_
                    refine RunT.ot0 (x := .v (.bool false)) rfl rfl rfl rfl (.pickF rfl rfl) ?_
                    refine RunT.ot0 (x := .v (.bool false)) rfl rfl rfl rfl (.moveX rfl) ?_
                    refine RunT.xn rfl rfl rfl rfl rfl rfl ?_
                    refine RunT.xn rfl rfl rfl rfl rfl rfl ?_
                    refine RunT.xn rfl rfl rfl rfl rfl rfl ?_
                    refine RunT.xn rfl rfl rfl rfl rfl rfl ?_
                    refine RunT.xn rfl rfl rfl rfl rfl rfl ?_
                    refine RunT.ot0 (x := .v (.bool false)) rfl rfl rfl rfl (.pickF rfl rfl) ?_
                    refine RunT.ot0 (x := .v (.bool false)) rfl rfl rfl rfl (.moveX rfl) ?_
                    refine RunT.xn rfl rfl rfl rfl rfl rfl ?_
                    refine RunT.xn rfl rfl rfl rfl rfl rfl ?_
                    refine RunT.xn rfl rfl rfl rfl rfl rfl ?_
                    refine RunT.xn rfl rfl rfl rfl rfl rfl ?_
                    refine RunT.ot0 (x := .v (.bool false)) rfl rfl rfl rfl (.pickF rfl rfl) ?_
                    refine RunT.ot0 (x := .v (.bool false)) rfl rfl rfl rfl (.moveX rfl) ?_
                    refine RunT.xn rfl rfl rfl rfl rfl rfl ?_
                    refine RunT.xn rfl rfl rfl rfl rfl rfl ?_
                    refine RunT.xn rfl rfl rfl rfl rfl rfl ?_
                    refine RunT.xn rfl rfl rfl rfl rfl rfl ?_
                    refine RunT.xn rfl rfl rfl rfl rfl rfl ?_
                    refine RunT.ot0 (x := .v (.bool false)) rfl rfl rfl rfl (.pickF rfl rfl) ?_
                    refine RunT.ot0 (x := .v (.bool false)) rfl rfl rfl rfl (.moveX rfl) ?_
                    refine RunT.xn rfl rfl rfl rfl rfl rfl ?_
                    refine RunT.xn rfl rfl rfl rfl rfl rfl ?_
                    refine RunT.xn rfl rfl rfl rfl rfl rfl ?_
                    refine RunT.xn rfl rfl rfl rfl rfl rfl ?_
                    refine RunT.ot0 (x := .v (.bool false)) rfl rfl rfl rfl (.pickF rfl rfl) ?_
                    refine RunT.ot0 (x := .v (.bool false)) rfl rfl rfl rfl (.assignX rfl) ?_
                    refine RunT.nil ?_
                    obtain rfl := si H
                    refine T.sub (sub_to (st' := ⟨[(0, .v (.bool false))], [], 8, []⟩) [] (by decide) rfl rfl (⟨⟨_, rfl, .one .v⟩, trivial⟩) (trivial)) ?_
                    refine T.ret ?_
                    exact RetOk.same [.v (.bool false)] ⟨rfl, trivial⟩ rfl rfl rfl
                · replace H := cf H g22
                  refine RunT.xn rfl rfl rfl (bo g22) rfl rfl ?_
                  refine RunT.xn rfl rfl rfl (bo g22) rfl rfl ?_
                  refine RunT.xn rfl rfl rfl (bo g22) rfl rfl ?_
                  refine RunT.xn rfl rfl rfl (bo g22) rfl rfl ?_
                  refine RunT.xn rfl rfl rfl (bo g22) rfl rfl ?_
                  refine RunT.ot0 (x := .v (.bool false)) rfl rfl rfl rfl (.pickF (bo g22) rfl) ?_
                  refine RunT.ot0 (x := .v (.bool false)) rfl rfl rfl rfl (.moveX rfl) ?_
                  refine RunT.xn rfl rfl rfl rfl rfl rfl ?_
                  refine RunT.xn rfl rfl rfl rfl rfl rfl ?_
                  refine RunT.xn rfl rfl rfl rfl rfl rfl ?_
                  refine RunT.xn rfl rfl rfl rfl rfl rfl ?_
                  refine RunT.xn rfl rfl rfl rfl rfl rfl ?_
                  refine RunT.ot0 (x := .v (.bool false)) rfl rfl rfl rfl (.pickF rfl rfl) ?_
                  refine RunT.ot0 (x := .v (.bool false)) rfl rfl rfl rfl (.moveX rfl) ?_
                  refine RunT.xn rfl rfl rfl rfl rfl rfl ?_
                  refine RunT.xn rfl rfl rfl rfl rfl rfl ?_
                  refine RunT.xn rfl rfl rfl rfl rfl rfl ?_
                  refine RunT.xn rfl rfl rfl rfl rfl rfl ?_
                  refine RunT.xn rfl rfl rfl rfl rfl rfl ?_
                  refine RunT.ot0 (x := .v (.bool false)) rfl rfl rfl rfl (.pickF rfl rfl) ?_
                  refine RunT.ot0 (x := .v (.bool false)) rfl rfl rfl rfl (.moveX rfl) ?_
                  refine RunT.xn rfl rfl rfl rfl rfl rfl ?_
                  refine RunT.xn rfl rfl rfl rfl rfl rfl ?_
                  refine RunT.xn rfl rfl rfl rfl rfl rfl ?_
                  refine RunT.xn rfl rfl rfl rfl rfl rfl ?_
                  refine RunT.ot0 (x := .v (.bool false)) rfl rfl rfl rfl (.pickF rfl rfl) ?_
                  refine RunT.ot0 (x := .v (.bool false)) rfl rfl rfl rfl (.moveX rfl) ?_
                  refine RunT.xn rfl rfl rfl rfl rfl rfl ?_
                  refine RunT.xn rfl rfl rfl rfl rfl rfl ?_
                  refine RunT.xn rfl rfl rfl rfl rfl rfl ?_
                  refine RunT.xn rfl rfl rfl rfl rfl rfl ?_
                  refine RunT.xn rfl rfl rfl rfl rfl rfl ?_
                  refine RunT.ot0 (x := .v (.bool false)) rfl rfl rfl rfl (.pickF rfl rfl) ?_
                  refine RunT.ot0 (x := .v (.bool false)) rfl rfl rfl rfl (.moveX rfl) ?_
                  refine RunT.xn rfl rfl rfl rfl rfl rfl ?_
                  refine RunT.xn rfl rfl rfl rfl rfl rfl ?_
                  refine RunT.xn rfl rfl rfl rfl rfl rfl ?_
                  refine RunT.xn rfl rfl rfl rfl rfl rfl ?_
                  refine RunT.ot0 (x := .v (.bool false)) rfl rfl rfl rfl (.pickF rfl rfl) ?_
                  refine RunT.ot0 (x := .v (.bool false)) rfl rfl rfl rfl (.moveX rfl) ?_
                  refine RunT.xn rfl rfl rfl rfl rfl rfl ?_
                  refine RunT.xn rfl rfl rfl rfl rfl rfl ?_
                  refine RunT.xn rfl rfl rfl rfl rfl rfl ?_
                  refine RunT.xn rfl rfl rfl rfl rfl rfl ?_
                  refine RunT.xn rfl rfl rfl rfl rfl rfl ?_
                  refine RunT.ot0 (x := .v (.bool false)) rfl rfl rfl rfl (.pickF rfl rfl) ?_
                  refine RunT.ot0 (x := .v (.bool false)) rfl rfl rfl rfl (.moveX rfl) ?_
                  refine RunT.xn rfl rfl rfl rfl rfl rfl ?_
                  refine RunT.xn rfl rfl rfl rfl rfl rfl ?_
                  refine RunT.xn rfl rfl rfl rfl rfl rfl ?_
                  refine RunT.xn rfl rfl rfl rfl rfl rfl ?_
                  refine RunT.ot0 (x := .v (.bool false)) rfl rfl rfl rfl (.pickF rfl rfl) ?_
                  refine RunT.ot0 (x := .v (.bool false)) rfl rfl rfl rfl (.assignX rfl) ?_
                  refine RunT.nil ?_
                  obtain rfl := si H
                  refine T.sub (sub_to (st' := ⟨[(0, .v (.bool false))], [], 8, []⟩) [] (by decide) rfl rfl (⟨⟨_, rfl, .one .v⟩, trivial⟩) (trivial)) ?_
                  refine T.ret ?_
                  exact RetOk.same [.v (.bool false)] ⟨rfl, trivial⟩ rfl rfl rfl
              · replace H := cf H g19
                refine RunT.xn rfl rfl rfl (bo g19) rfl rfl ?_
                refine RunT.xn rfl rfl rfl (bo g19) rfl rfl ?_
                refine RunT.xn rfl rfl rfl (bo g19) rfl rfl ?_
                refine RunT.xn rfl rfl rfl (bo g19) rfl rfl ?_
                refine RunT.ot0 (x := .v (.bool false)) rfl rfl rfl rfl (.pickF (bo g19) rfl) ?_
                refine RunT.ot0 (x := .v (.bool false)) rfl rfl rfl rfl (.moveX rfl) ?_
                refine RunT.xn rfl rfl rfl rfl rfl rfl ?_
                refine RunT.xn rfl rfl rfl rfl rfl rfl ?_
                refine RunT.xn rfl rfl rfl rfl rfl rfl ?_
                refine RunT.xn rfl rfl rfl rfl rfl rfl ?_
                refine RunT.xn rfl rfl rfl rfl rfl rfl ?_
                refine RunT.ot0 (x := .v (.bool false)) rfl rfl rfl rfl (.pickF rfl rfl) ?_
                refine RunT.ot0 (x := .v (.bool false)) rfl rfl rfl rfl (.moveX rfl) ?_
                refine RunT.xn rfl rfl rfl rfl rfl rfl ?_
                refine RunT.xn rfl rfl rfl rfl rfl rfl ?_
                refine RunT.xn rfl rfl rfl rfl rfl rfl ?_
                refine RunT.xn rfl rfl rfl rfl rfl rfl ?_
                refine RunT.xn rfl rfl rfl rfl rfl rfl ?_
                refine RunT.ot0 (x := .v (.bool false)) rfl rfl rfl rfl (.pickF rfl rfl) ?_
                refine RunT.ot0 (x := .v (.bool false)) rfl rfl rfl rfl (.moveX rfl) ?_
                refine RunT.xn rfl rfl rfl rfl rfl rfl ?_
                refine RunT.xn rfl rfl rfl rfl rfl rfl ?_
                refine RunT.xn rfl rfl rfl rfl rfl rfl ?_
                refine RunT.xn rfl rfl rfl rfl rfl rfl ?_
                refine RunT.xn rfl rfl rfl rfl rfl rfl ?_
                refine RunT.ot0 (x := .v (.bool false)) rfl rfl rfl rfl (.pickF rfl rfl) ?_
                refine RunT.ot0 (x := .v (.bool false)) rfl rfl rfl rfl (.moveX rfl) ?_
                refine RunT.xn rfl rfl rfl rfl rfl rfl ?_
                refine RunT.xn rfl rfl rfl rfl rfl rfl ?_
                refine RunT.xn rfl rfl rfl rfl rfl rfl ?_
                refine RunT.xn rfl rfl rfl rfl rfl rfl ?_
                refine RunT.ot0 (x := .v (.bool false)) rfl rfl rfl rfl (.pickF rfl rfl) ?_
                refine RunT.ot0 (x := .v (.bool false)) rfl rfl rfl rfl (.moveX rfl) ?_
                refine RunT.xn rfl rfl rfl rfl rfl rfl ?_
                refine RunT.xn rfl rfl rfl rfl rfl rfl ?_
                refine RunT.xn rfl rfl rfl rfl rfl rfl ?_
                refine RunT.xn rfl rfl rfl rfl rfl rfl ?_
                refine RunT.xn rfl rfl rfl rfl rfl rfl ?_
                refine RunT.ot0 (x := .v (.bool false)) rfl rfl rfl rfl (.pickF rfl rfl) ?_
                refine RunT.ot0 (x := .v (.bool false)) rfl rfl rfl rfl (.moveX rfl) ?_
                refine RunT.xn rfl rfl rfl rfl rfl rfl ?_
                refine RunT.xn rfl rfl rfl rfl rfl rfl ?_
                refine RunT.xn rfl rfl rfl rfl rfl rfl ?_
                refine RunT.xn rfl rfl rfl rfl rfl rfl ?_
                refine RunT.ot0 (x := .v (.bool false)) rfl rfl rfl rfl (.pickF rfl rfl) ?_
                refine RunT.ot0 (x := .v (.bool false)) rfl rfl rfl rfl (.moveX rfl) ?_
                refine RunT.xn rfl rfl rfl rfl rfl rfl ?_
                refine RunT.xn rfl rfl rfl rfl rfl rfl ?_
                refine RunT.xn rfl rfl rfl rfl rfl rfl ?_
                refine RunT.xn rfl rfl rfl rfl rfl rfl ?_
                refine RunT.xn rfl rfl rfl rfl rfl rfl ?_
                refine RunT.ot0 (x := .v (.bool false)) rfl rfl rfl rfl (.pickF rfl rfl) ?_
                refine RunT.ot0 (x := .v (.bool false)) rfl rfl rfl rfl (.moveX rfl) ?_
                refine RunT.xn rfl rfl rfl rfl rfl rfl ?_
                refine RunT.xn rfl rfl rfl rfl rfl rfl ?_
                refine RunT.xn rfl rfl rfl rfl rfl rfl ?_
                refine RunT.xn rfl rfl rfl rfl rfl rfl ?_
                refine RunT.ot0 (x := .v (.bool false)) rfl rfl rfl rfl (.pickF rfl rfl) ?_
                refine RunT.ot0 (x := .v (.bool false)) rfl rfl rfl rfl (.assignX rfl) ?_
                refine RunT.nil ?_
                obtain rfl := si H
                refine T.sub (sub_to (st' := ⟨[(0, .v (.bool false))], [], 8, []⟩) [] (by decide) rfl rfl (⟨⟨_, rfl, .one .v⟩, trivial⟩) (trivial)) ?_
                refine T.ret ?_
                exact RetOk.same [.v (.bool false)] ⟨rfl, trivial⟩ rfl rfl rfl
            · replace H := cf H g18
              refine RunT.xn rfl rfl rfl (bo g18) rfl rfl ?_
              refine RunT.xn rfl rfl rfl (bo g18) rfl rfl ?_
              refine RunT.xn rfl rfl rfl (bo g18) rfl rfl ?_
              refine RunT.ot0 (x := .v (.bool false)) rfl rfl rfl rfl (.pickF (bo g18) rfl) ?_
              refine RunT.ot0 (x := .v (.bool false)) rfl rfl rfl rfl (.moveX rfl) ?_
              refine RunT.xn rfl rfl rfl rfl rfl rfl ?_
              refine RunT.xn rfl rfl rfl rfl rfl rfl ?_
              refine RunT.xn rfl rfl rfl rfl rfl rfl ?_
              refine RunT.xn rfl rfl rfl rfl rfl rfl ?_
              refine RunT.ot0 (x := .v (.bool false)) rfl rfl rfl rfl (.pickF rfl rfl) ?_
              refine RunT.ot0 (x := .v (.bool false)) rfl rfl rfl rfl (.moveX rfl) ?_
              refine RunT.xn rfl rfl rfl rfl rfl rfl ?_
              refine RunT.xn rfl rfl rfl rfl rfl rfl ?_
              refine RunT.xn rfl rfl rfl rfl rfl rfl ?_
              refine RunT.xn rfl rfl rfl rfl rfl rfl ?_
              refine RunT.xn rfl rfl rfl rfl rfl rfl ?_
              refine RunT.ot0 (x := .v (.bool false)) rfl rfl rfl rfl (.pickF rfl rfl) ?_
              refine RunT.ot0 (x := .v (.bool false)) rfl rfl rfl rfl (.moveX rfl) ?_
              refine RunT.xn rfl rfl rfl rfl rfl rfl ?_
              refine RunT.xn rfl rfl rfl rfl rfl rfl ?_
              refine RunT.xn rfl rfl rfl rfl rfl rfl ?_
              refine RunT.xn rfl rfl rfl rfl rfl rfl ?_
              refine RunT.xn rfl rfl rfl rfl rfl rfl ?_
              refine RunT.ot0 (x := .v (.bool false)) rfl rfl rfl rfl (.pickF rfl rfl) ?_
              refine RunT.ot0 (x := .v (.bool false)) rfl rfl rfl rfl (.moveX rfl) ?_
              refine RunT.xn rfl rfl rfl rfl rfl rfl ?_
              refine RunT.xn rfl rfl rfl rfl rfl rfl ?_
              refine RunT.xn rfl rfl rfl rfl rfl rfl ?_
              refine RunT.xn rfl rfl rfl rfl rfl rfl ?_
              refine RunT.xn rfl rfl rfl rfl rfl rfl ?_
              refine RunT.ot0 (x := .v (.bool false)) rfl rfl rfl rfl (.pickF rfl rfl) ?_
              refine RunT.ot0 (x := .v (.bool false)) rfl rfl rfl rfl (.moveX rfl) ?_
              refine RunT.xn rfl rfl rfl rfl rfl rfl ?_
              refine RunT.xn rfl rfl rfl rfl rfl rfl ?_
              refine RunT.xn rfl rfl rfl rfl rfl rfl ?_
              refine RunT.xn rfl rfl rfl rfl rfl rfl ?_
              refine RunT.ot0 (x := .v (.bool false)) rfl rfl rfl rfl (.pickF rfl rfl) ?_
              refine RunT.ot0 (x := .v (.bool false)) rfl rfl rfl rfl (.moveX rfl) ?_
              refine RunT.xn rfl rfl rfl rfl rfl rfl ?_
              refine RunT.xn rfl rfl rfl rfl rfl rfl ?_
              refine RunT.xn rfl rfl rfl rfl rfl rfl ?_
              refine RunT.xn rfl rfl rfl rfl rfl rfl ?_
              refine RunT.xn rfl rfl rfl rfl rfl rfl ?_
              refine RunT.ot0 (x := .v (.bool false)) rfl rfl rfl rfl (.pickF rfl rfl) ?_
              refine RunT.ot0 (x := .v (.bool false)) rfl rfl rfl rfl (.moveX rfl) ?_
              refine RunT.xn rfl rfl rfl rfl rfl rfl ?_
              refine RunT.xn rfl rfl rfl rfl rfl rfl ?_
              refine RunT.xn rfl rfl rfl rfl rfl rfl ?_
              refine RunT.xn rfl rfl rfl rfl rfl rfl ?_
              refine RunT.ot0 (x := .v (.bool false)) rfl rfl rfl rfl (.pickF rfl rfl) ?_
              refine RunT.ot0 (x := .v (.bool false)) rfl rfl rfl rfl (.moveX rfl) ?_
              refine RunT.xn rfl rfl rfl rfl rfl rfl ?_
              refine RunT.xn rfl rfl rfl rfl rfl rfl ?_
              refine RunT.xn rfl rfl rfl rfl rfl rfl ?_
              refine RunT.xn rfl rfl rfl rfl rfl rfl ?_
              refine RunT.xn rfl rfl rfl rfl rfl rfl ?_
              refine RunT.ot0 (x := .v (.bool false)) rfl rfl rfl rfl (.pickF rfl rfl) ?_
              refine RunT.ot0 (x := .v (.bool false)) rfl rfl rfl rfl (.moveX rfl) ?_
              refine RunT.xn rfl rfl rfl rfl rfl rfl ?_
              refine RunT.xn rfl rfl rfl rfl rfl rfl ?_
              refine RunT.xn rfl rfl rfl rfl rfl rfl ?_
              refine RunT.xn rfl rfl rfl rfl rfl rfl ?_
              refine RunT.ot0 (x := .v (.bool false)) rfl rfl rfl rfl (.pickF rfl rfl) ?_
              refine RunT.ot0 (x := .v (.bool false)) rfl rfl rfl rfl (.assignX rfl) ?_
              refine RunT.nil ?_
              obtain rfl := si H
              refine T.sub (sub_to (st' := ⟨[(0, .v (.bool false))], [], 8, []⟩) [] (by decide) rfl rfl (⟨⟨_, rfl, .one .v⟩, trivial⟩) (trivial)) ?_
              refine T.ret ?_
              exact RetOk.same [.v (.bool false)] ⟨rfl, trivial⟩ rfl rfl rfl
          · replace H := cf H g17
            refine RunT.xn rfl rfl rfl (bo g17) rfl rfl ?_
            refine RunT.ot0 (x := .v (.bool false)) rfl rfl rfl rfl (.pickF (bo g17) rfl) ?_
            refine RunT.ot0 (x := .v (.bool false)) rfl rfl rfl rfl (.moveX rfl) ?_
            refine RunT.xn rfl rfl rfl rfl rfl rfl ?_
            refine RunT.xn rfl rfl rfl rfl rfl rfl ?_
            refine RunT.xn rfl rfl rfl rfl rfl rfl ?_
            refine RunT.ot0 (x := .v (.bool false)) rfl rfl rfl rfl (.pickF rfl rfl) ?_
            refine RunT.ot0 (x := .v (.bool false)) rfl rfl rfl rfl (.moveX rfl) ?_
            refine RunT.xn rfl rfl rfl rfl rfl rfl ?_
            refine RunT.xn rfl rfl rfl rfl rfl rfl ?_
            refine RunT.xn rfl rfl rfl rfl rfl rfl ?_
            refine RunT.xn rfl rfl rfl rfl rfl rfl ?_
            refine RunT.ot0 (x := .v (.bool false)) rfl rfl rfl rfl (.pickF rfl rfl) ?_
            refine RunT.ot0 (x := .v (.bool false)) rfl rfl rfl rfl (.moveX rfl) ?_
            refine RunT.xn rfl rfl rfl rfl rfl rfl ?_
            refine RunT.xn rfl rfl rfl rfl rfl rfl ?_
            refine RunT.xn rfl rfl rfl rfl rfl rfl ?_
            refine RunT.xn rfl rfl rfl rfl rfl rfl ?_
            refine RunT.xn rfl rfl rfl rfl rfl rfl ?_
            refine RunT.ot0 (x := .v (.bool false)) rfl rfl rfl rfl (.pickF rfl rfl) ?_
            refine RunT.ot0 (x := .v (.bool false)) rfl rfl rfl rfl (.moveX rfl) ?_
            refine RunT.xn rfl rfl rfl rfl rfl rfl ?_
            refine RunT.xn rfl rfl rfl rfl rfl rfl ?_
            refine RunT.xn rfl rfl rfl rfl rfl rfl ?_
            refine RunT.xn rfl rfl rfl rfl rfl rfl ?_
            refine RunT.xn rfl rfl rfl rfl rfl rfl ?_
            refine RunT.ot0 (x := .v (.bool false)) rfl rfl rfl rfl (.pickF rfl rfl) ?_
            refine RunT.ot0 (x := .v (.bool false)) rfl rfl rfl rfl (.moveX rfl) ?_
            refine RunT.xn rfl rfl rfl rfl rfl rfl ?_
            refine RunT.xn rfl rfl rfl rfl rfl rfl ?_
            refine RunT.xn rfl rfl rfl rfl rfl rfl ?_
            refine RunT.xn rfl rfl rfl rfl rfl rfl ?_
            refine RunT.xn rfl rfl rfl rfl rfl rfl ?_
            refine RunT.ot0 (x := .v (.bool false)) rfl rfl rfl rfl (.pickF rfl rfl) ?_
            refine RunT.ot0 (x := .v (.bool false)) rfl rfl rfl rfl (.moveX rfl) ?_
            refine RunT.xn rfl rfl rfl rfl rfl rfl ?_
            refine RunT.xn rfl rfl rfl rfl rfl rfl ?_
            refine RunT.xn rfl rfl rfl rfl rfl rfl ?_
            refine RunT.xn rfl rfl rfl rfl rfl rfl ?_
            refine RunT.ot0 (x := .v (.bool false)) rfl rfl rfl rfl (.pickF rfl rfl) ?_
            refine RunT.ot0 (x := .v (.bool false)) rfl rfl rfl rfl (.moveX rfl) ?_
            refine RunT.xn rfl rfl rfl rfl rfl rfl ?_
            refine RunT.xn rfl rfl rfl rfl rfl rfl ?_
            refine RunT.xn rfl rfl rfl rfl rfl rfl ?_
            refine RunT.xn rfl rfl rfl rfl rfl rfl ?_
            refine RunT.xn rfl rfl rfl rfl rfl rfl ?_
            refine RunT.ot0 (x := .v (.bool false)) rfl rfl rfl rfl (.pickF rfl rfl) ?_
            refine RunT.ot0 (x := .v (.bool false)) rfl rfl rfl rfl (.moveX rfl) ?_
            refine RunT.xn rfl rfl rfl rfl rfl rfl ?_
            refine RunT.xn rfl rfl rfl rfl rfl rfl ?_
            refine RunT.xn rfl rfl rfl rfl rfl rfl ?_
            refine RunT.xn rfl rfl rfl rfl rfl rfl ?_
            refine RunT.ot0 (x := .v (.bool false)) rfl rfl rfl rfl (.pickF rfl rfl) ?_
            refine RunT.ot0 (x := .v (.bool false)) rfl rfl rfl rfl (.moveX rfl) ?_
            refine RunT.xn rfl rfl rfl rfl rfl rfl ?_
            refine RunT.xn rfl rfl rfl rfl rfl rfl ?_
            refine RunT.xn rfl rfl rfl rfl rfl rfl ?_
            refine RunT.xn rfl rfl rfl rfl rfl rfl ?_
            refine RunT.xn rfl rfl rfl rfl rfl rfl ?_
            refine RunT.ot0 (x := .v (.bool false)) rfl rfl rfl rfl (.pickF rfl rfl) ?_
            refine RunT.ot0 (x := .v (.bool false)) rfl rfl rfl rfl (.moveX rfl) ?_
            refine RunT.xn rfl rfl rfl rfl rfl rfl ?_
            refine RunT.xn rfl rfl rfl rfl rfl rfl ?_
            refine RunT.xn rfl rfl rfl rfl rfl rfl ?_
            refine RunT.xn rfl rfl rfl rfl rfl rfl ?_
            refine RunT.ot0 (x := .v (.bool false)) rfl rfl rfl rfl (.pickF rfl rfl) ?_
            refine RunT.ot0 (x := .v (.bool false)) rfl rfl rfl rfl (.assignX rfl) ?_
            refine RunT.nil ?_
            obtain rfl := si H
            refine T.sub (sub_to (st' := ⟨[(0, .v (.bool false))], [], 8, []⟩) [] (by decide) rfl rfl (⟨⟨_, rfl, .one .v⟩, trivial⟩) (trivial)) ?_
            refine T.ret ?_
            exact RetOk.same [.v (.bool false)] ⟨rfl, trivial⟩ rfl rfl rfl
        · replace H := cf H g14
          refine RunT.xn rfl rfl rfl (bo g14) rfl rfl ?_
          refine RunT.xn rfl rfl rfl (bo g14) rfl rfl ?_
          refine RunT.xn rfl rfl rfl (bo g14) rfl rfl ?_
          refine RunT.xn rfl rfl rfl (bo g14) rfl rfl ?_
          refine RunT.ot0 (x := .v (.bool false)) rfl rfl rfl rfl (.pickF (bo g14) rfl) ?_
          refine RunT.ot0 (x := .v (.bool false)) rfl rfl rfl rfl (.moveX rfl) ?_
          refine RunT.xn rfl rfl rfl rfl rfl rfl ?_
          refine RunT.ot0 (x := .v (.bool false)) rfl rfl rfl rfl (.pickF rfl rfl) ?_
          refine RunT.ot0 (x := .v (.bool false)) rfl rfl rfl rfl (.moveX rfl) ?_
          refine RunT.xn rfl rfl rfl rfl rfl rfl ?_
          refine RunT.xn rfl rfl rfl rfl rfl rfl ?_
          refine RunT.xn rfl rfl rfl rfl rfl rfl ?_
          refine RunT.ot0 (x := .v (.bool false)) rfl rfl rfl rfl (.pickF rfl rfl) ?_
          refine RunT.ot0 (x := .v (.bool false)) rfl rfl rfl rfl (.moveX rfl) ?_
          refine RunT.xn rfl rfl rfl rfl rfl rfl ?_
          refine RunT.xn rfl rfl rfl rfl rfl rfl ?_
          refine RunT.xn rfl rfl rfl rfl rfl rfl ?_
          refine RunT.xn rfl rfl rfl rfl rfl rfl ?_
          refine RunT.ot0 (x := .v (.bool false)) rfl rfl rfl rfl (.pickF rfl rfl) ?_
          refine RunT.ot0 (x := .v (.bool false)) rfl rfl rfl rfl (.moveX rfl) ?_
          refine RunT.xn rfl rfl rfl rfl rfl rfl ?_
          refine RunT.xn rfl rfl rfl rfl rfl rfl ?_
          refine RunT.xn rfl rfl rfl rfl rfl rfl ?_
          refine RunT.xn rfl rfl rfl rfl rfl rfl ?_
          refine RunT.xn rfl rfl rfl rfl rfl rfl ?_
          refine RunT.ot0 (x := .v (.bool false)) rfl rfl rfl rfl (.pickF rfl rfl) ?_
          refine RunT.ot0 (x := .v (.bool false)) rfl rfl rfl rfl (.moveX rfl) ?_
          refine RunT.xn rfl rfl rfl rfl rfl rfl ?_
          refine RunT.xn rfl rfl rfl rfl rfl rfl ?_
          refine RunT.xn rfl rfl rfl rfl rfl rfl ?_
          refine RunT.xn rfl rfl rfl rfl rfl rfl ?_
          refine RunT.xn rfl rfl rfl rfl rfl rfl ?_
          refine RunT.ot0 (x := .v (.bool false)) rfl rfl rfl rfl (.pickF rfl rfl) ?_
          refine RunT.ot0 (x := .v (.bool false)) rfl rfl rfl rfl (.moveX rfl) ?_
          refine RunT.xn rfl rfl rfl rfl rfl rfl ?_
          refine RunT.xn rfl rfl rfl rfl rfl rfl ?_
          refine RunT.xn rfl rfl rfl rfl rfl rfl ?_
          refine RunT.xn rfl rfl rfl rfl rfl rfl ?_
          refine RunT.xn rfl rfl rfl rfl rfl rfl ?_
          refine RunT.ot0 (x := .v (.bool false)) rfl rfl rfl rfl (.pickF rfl rfl) ?_
          refine RunT.ot0 (x := .v (.bool false)) rfl rfl rfl rfl (.moveX rfl) ?_
          refine RunT.xn rfl rfl rfl rfl rfl rfl ?_
          refine RunT.xn rfl rfl rfl rfl rfl rfl ?_
          refine RunT.xn rfl rfl rfl rfl rfl rfl ?_
          refine RunT.xn rfl rfl rfl rfl rfl rfl ?_
          refine RunT.ot0 (x := .v (.bool false)) rfl rfl rfl rfl (.pickF rfl rfl) ?_
          refine RunT.ot0 (x := .v (.bool false)) rfl rfl rfl rfl (.moveX rfl) ?_
          refine RunT.xn rfl rfl rfl rfl rfl rfl ?_
          refine RunT.xn rfl rfl rfl rfl rfl rfl ?_
          refine RunT.xn rfl rfl rfl rfl rfl rfl ?_
          refine RunT.xn rfl rfl rfl rfl rfl rfl ?_
          refine RunT.xn rfl rfl rfl rfl rfl rfl ?_
          refine RunT.ot0 (x := .v (.bool false)) rfl rfl rfl rfl (.pickF rfl rfl) ?_
          refine RunT.ot0 (x := .v (.bool false)) rfl rfl rfl rfl (.moveX rfl) ?_
          refine RunT.xn rfl rfl rfl rfl rfl rfl ?_
          refine RunT.xn rfl rfl rfl rfl rfl rfl ?_
          refine RunT.xn rfl rfl rfl rfl rfl rfl ?_
          refine RunT.xn rfl rfl rfl rfl rfl rfl ?_
          refine RunT.ot0 (x := .v (.bool false)) rfl rfl rfl rfl (.pickF rfl rfl) ?_
          refine RunT.ot0 (x := .v (.bool false)) rfl rfl rfl rfl (.moveX rfl) ?_
          refine RunT.xn rfl rfl rfl rfl rfl rfl ?_
          refine RunT.xn rfl rfl rfl rfl rfl rfl ?_
          refine RunT.xn rfl rfl rfl rfl rfl rfl ?_
          refine RunT.xn rfl rfl rfl rfl rfl rfl ?_
          refine RunT.xn rfl rfl rfl rfl rfl rfl ?_
          refine RunT.ot0 (x := .v (.bool false)) rfl rfl rfl rfl (.pickF rfl rfl) ?_
          refine RunT.ot0 (x := .v (.bool false)) rfl rfl rfl rfl (.moveX rfl) ?_
          refine RunT.xn rfl rfl rfl rfl rfl rfl ?_
          refine RunT.xn rfl rfl rfl rfl rfl rfl ?_
          refine RunT.xn rfl rfl rfl rfl rfl rfl ?_
          refine RunT.xn rfl rfl rfl rfl rfl rfl ?_
          refine RunT.ot0 (x := .v (.bool false)) rfl rfl rfl rfl (.pickF rfl rfl) ?_
          refine RunT.ot0 (x := .v (.bool false)) rfl rfl rfl rfl (.assignX rfl) ?_
          refine RunT.nil ?_
          obtain rfl := si H
          refine T.sub (sub_to (st' := ⟨[(0, .v (.bool false))], [], 8, []⟩) [] (by decide) rfl rfl (⟨⟨_, rfl, .one .v⟩, trivial⟩) (trivial)) ?_
          refine T.ret ?_
          exact RetOk.same [.v (.bool false)] ⟨rfl, trivial⟩ rfl rfl rfl
      · replace H := cf H g11
        refine RunT.xn rfl rfl rfl (bo g11) rfl rfl ?_
        refine RunT.xn rfl rfl rfl (bo g11) rfl rfl ?_
        refine RunT.xn rfl rfl rfl (bo g11) rfl rfl ?_
        refine RunT.ot0 (x := .v (.bool false)) rfl rfl rfl rfl (.pickF (bo g11) rfl) ?_
        refine RunT.ot0 (x := .v (.bool false)) rfl rfl rfl rfl (.moveX rfl) ?_
        refine RunT.xn rfl rfl rfl rfl rfl rfl ?_
        refine RunT.xn rfl rfl rfl rfl rfl rfl ?_
        refine RunT.xn rfl rfl rfl rfl rfl rfl ?_
        refine RunT.xn rfl rfl rfl rfl rfl rfl ?_
        refine RunT.ot0 (x := .v (.bool false)) rfl rfl rfl rfl (.pickF rfl rfl) ?_
        refine RunT.ot0 (x := .v (.bool false)) rfl rfl rfl rfl (.moveX rfl) ?_
        refine RunT.xn rfl rfl rfl rfl rfl rfl ?_
        refine RunT.ot0 (x := .v (.bool false)) rfl rfl rfl rfl (.pickF rfl rfl) ?_
        refine RunT.ot0 (x := .v (.bool false)) rfl rfl rfl rfl (.moveX rfl) ?_
        refine RunT.xn rfl rfl rfl rfl rfl rfl ?_
        refine RunT.xn rfl rfl rfl rfl rfl rfl ?_
        refine RunT.xn rfl rfl rfl rfl rfl rfl ?_
        refine RunT.ot0 (x := .v (.bool false)) rfl rfl rfl rfl (.pickF rfl rfl) ?_
        refine RunT.ot0 (x := .v (.bool false)) rfl rfl rfl rfl (.moveX rfl) ?_
        refine RunT.xn rfl rfl rfl rfl rfl rfl ?_
        refine RunT.xn rfl rfl rfl rfl rfl rfl ?_
        refine RunT.xn rfl rfl rfl rfl rfl rfl ?_
        refine RunT.xn rfl rfl rfl rfl rfl rfl ?_
        refine RunT.ot0 (x := .v (.bool false)) rfl rfl rfl rfl (.pickF rfl rfl) ?_
        refine RunT.ot0 (x := .v (.bool false)) rfl rfl rfl rfl (.moveX rfl) ?_
        refine RunT.xn rfl rfl rfl rfl rfl rfl ?_
        refine RunT.xn rfl rfl rfl rfl rfl rfl ?_
        refine RunT.xn rfl rfl rfl rfl rfl rfl ?_
        refine RunT.xn rfl rfl rfl rfl rfl rfl ?_
        refine RunT.xn rfl rfl rfl rfl rfl rfl ?_
        refine RunT.ot0 (x := .v (.bool false)) rfl rfl rfl rfl (.pickF rfl rfl) ?_
        refine RunT.ot0 (x := .v (.bool false)) rfl rfl rfl rfl (.moveX rfl) ?_
        refine RunT.xn rfl rfl rfl rfl rfl rfl ?_
        refine RunT.xn rfl rfl rfl rfl rfl rfl ?_
        refine RunT.xn rfl rfl rfl rfl rfl rfl ?_
        refine RunT.xn rfl rfl rfl rfl rfl rfl ?_
        refine RunT.xn rfl rfl rfl rfl rfl rfl ?_
        refine RunT.ot0 (x := .v (.bool false)) rfl rfl rfl rfl (.pickF rfl rfl) ?_
        refine RunT.ot0 (x := .v (.bool false)) rfl rfl rfl rfl (.moveX rfl) ?_
        refine RunT.xn rfl rfl rfl rfl rfl rfl ?_
        refine RunT.xn rfl rfl rfl rfl rfl rfl ?_
        refine RunT.xn rfl rfl rfl rfl rfl rfl ?_
        refine RunT.xn rfl rfl rfl rfl rfl rfl ?_
        refine RunT.xn rfl rfl rfl rfl rfl rfl ?_
        refine RunT.ot0 (x := .v (.bool false)) rfl rfl rfl rfl (.pickF rfl rfl) ?_
        refine RunT.ot0 (x := .v (.bool false)) rfl rfl rfl rfl (.moveX rfl) ?_
        refine RunT.xn rfl rfl rfl rfl rfl rfl ?_
        refine RunT.xn rfl rfl rfl rfl rfl rfl ?_
        refine RunT.xn rfl rfl rfl rfl rfl rfl ?_
        refine RunT.xn rfl rfl rfl rfl rfl rfl ?_
        refine RunT.ot0 (x := .v (.bool false)) rfl rfl rfl rfl (.pickF rfl rfl) ?_
        refine RunT.ot0 (x := .v (.bool false)) rfl rfl rfl rfl (.moveX rfl) ?_
        refine RunT.xn rfl rfl rfl rfl rfl rfl ?_
        refine RunT.xn rfl rfl rfl rfl rfl rfl ?_
        refine RunT.xn rfl rfl rfl rfl rfl rfl ?_
        refine RunT.xn rfl rfl rfl rfl rfl rfl ?_
        refine RunT.xn rfl rfl rfl rfl rfl rfl ?_
        refine RunT.ot0 (x := .v (.bool false)) rfl rfl rfl rfl (.pickF rfl rfl) ?_
        refine RunT.ot0 (x := .v (.bool false)) rfl rfl rfl rfl (.moveX rfl) ?_
        refine RunT.xn rfl rfl rfl rfl rfl rfl ?_
        refine RunT.xn rfl rfl rfl rfl rfl rfl ?_
        refine RunT.xn rfl rfl rfl rfl rfl rfl ?_
        refine RunT.xn rfl rfl rfl rfl rfl rfl ?_
        refine RunT.ot0 (x := .v (.bool false)) rfl rfl rfl rfl (.pickF rfl rfl) ?_
        refine RunT.ot0 (x := .v (.bool false)) rfl rfl rfl rfl (.moveX rfl) ?_
        refine RunT.xn rfl rfl rfl rfl rfl rfl ?_
        refine RunT.xn rfl rfl rfl rfl rfl rfl ?_
        refine RunT.xn rfl rfl rfl rfl rfl rfl ?_
        refine RunT.xn rfl rfl rfl rfl rfl rfl ?_
        refine RunT.xn rfl rfl rfl rfl rfl rfl ?_
        refine RunT.ot0 (x := .v (.bool false)) rfl rfl rfl rfl (.pickF rfl rfl) ?_
        refine RunT.ot0 (x := .v (.bool false)) rfl rfl rfl rfl (.moveX rfl) ?_
        refine RunT.xn rfl rfl rfl rfl rfl rfl ?_
        refine RunT.xn rfl rfl rfl rfl rfl rfl ?_
        refine RunT.xn rfl rfl rfl rfl rfl rfl ?_
        refine RunT.xn rfl rfl rfl rfl rfl rfl ?_
        refine RunT.ot0 (x := .v (.bool false)) rfl rfl rfl rfl (.pickF rfl rfl) ?_
        refine RunT.ot0 (x := .v (.bool false)) rfl rfl rfl rfl (.assignX rfl) ?_
        refine RunT.nil ?_
        obtain rfl := si H
        refine T.sub (sub_to (st' := ⟨[(0, .v (.bool false))], [], 8, []⟩) [] (by decide) rfl rfl (⟨⟨_, rfl, .one .v⟩, trivial⟩) (trivial)) ?_
        refine T.ret ?_
        exact RetOk.same [.v (.bool false)] ⟨rfl, trivial⟩ rfl rfl rfl
    · replace H := cf H g8
      refine RunT.xn rfl rfl rfl (bo g8) rfl rfl ?_
      refine RunT.xn rfl rfl rfl (bo g8) rfl rfl ?_
      refine RunT.xn rfl rfl rfl (bo g8) rfl rfl ?_
      refine RunT.xn rfl rfl rfl (bo g8) rfl rfl ?_
      refine RunT.ot0 (x := .v (.bool false)) rfl rfl rfl rfl (.pickF (bo g8) rfl) ?_
      refine RunT.ot0 (x := .v (.bool false)) rfl rfl rfl rfl (.moveX rfl) ?_
      refine RunT.xn rfl rfl rfl rfl rfl rfl ?_
      refine RunT.xn rfl rfl rfl rfl rfl rfl ?_
      refine RunT.xn rfl rfl rfl rfl rfl rfl ?_
      refine RunT.ot0 (x := .v (.bool false)) rfl rfl rfl rfl (.pickF rfl rfl) ?_
      refine RunT.ot0 (x := .v (.bool false)) rfl rfl rfl rfl (.moveX rfl) ?_
      refine RunT.xn rfl rfl rfl rfl rfl rfl ?_
      refine RunT.xn rfl rfl rfl rfl rfl rfl ?_
      refine RunT.xn rfl rfl rfl rfl rfl rfl ?_
      refine RunT.xn rfl rfl rfl rfl rfl rfl ?_
      refine RunT.ot0 (x := .v (.bool false)) rfl rfl rfl rfl (.pickF rfl rfl) ?_
      refine RunT.ot0 (x := .v (.bool false)) rfl rfl rfl rfl (.moveX rfl) ?_
      refine RunT.xn rfl rfl rfl rfl rfl rfl ?_
      refine RunT.ot0 (x := .v (.bool false)) rfl rfl rfl rfl (.pickF rfl rfl) ?_
      refine RunT.ot0 (x := .v (.bool false)) rfl rfl rfl rfl (.moveX rfl) ?_
      refine RunT.xn rfl rfl rfl rfl rfl rfl ?_
      refine RunT.xn rfl rfl rfl rfl rfl rfl ?_
      refine RunT.xn rfl rfl rfl rfl rfl rfl ?_
      refine RunT.ot0 (x := .v (.bool false)) rfl rfl rfl rfl (.pickF rfl rfl) ?_
      refine RunT.ot0 (x := .v (.bool false)) rfl rfl rfl rfl (.moveX rfl) ?_
      refine RunT.xn rfl rfl rfl rfl rfl rfl ?_
      refine RunT.xn rfl rfl rfl rfl rfl rfl ?_
      refine RunT.xn rfl rfl rfl rfl rfl rfl ?_
      refine RunT.xn rfl rfl rfl rfl rfl rfl ?_
      refine RunT.ot0 (x := .v (.bool false)) rfl rfl rfl rfl (.pickF rfl rfl) ?_
      refine RunT.ot0 (x := .v (.bool false)) rfl rfl rfl rfl (.moveX rfl) ?_
      refine RunT.xn rfl rfl rfl rfl rfl rfl ?_
      refine RunT.xn rfl rfl rfl rfl rfl rfl ?_
      refine RunT.xn rfl rfl rfl rfl rfl rfl ?_
      refine RunT.xn rfl rfl rfl rfl rfl rfl ?_
      refine RunT.xn rfl rfl rfl rfl rfl rfl ?_
      refine RunT.ot0 (x := .v (.bool false)) rfl rfl rfl rfl (.pickF rfl rfl) ?_
      refine RunT.ot0 (x := .v (.bool false)) rfl rfl rfl rfl (.moveX rfl) ?_
      refine RunT.xn rfl rfl rfl rfl rfl rfl ?_
      refine RunT.xn rfl rfl rfl rfl rfl rfl ?_
      refine RunT.xn rfl rfl rfl rfl rfl rfl ?_
      refine RunT.xn rfl rfl rfl rfl rfl rfl ?_
      refine RunT.xn rfl rfl rfl rfl rfl rfl ?_
      refine RunT.ot0 (x := .v (.bool false)) rfl rfl rfl rfl (.pickF rfl rfl) ?_
      refine RunT.ot0 (x := .v (.bool false)) rfl rfl rfl rfl (.moveX rfl) ?_
      refine RunT.xn rfl rfl rfl rfl rfl rfl ?_
      refine RunT.xn rfl rfl rfl rfl rfl rfl ?_
      refine RunT.xn rfl rfl rfl rfl rfl rfl ?_
      refine RunT.xn rfl rfl rfl rfl rfl rfl ?_
      refine RunT.xn rfl rfl rfl rfl rfl rfl ?_
      refine RunT.ot0 (x := .v (.bool false)) rfl rfl rfl rfl (.pickF rfl rfl) ?_
      refine RunT.ot0 (x := .v (.bool false)) rfl rfl rfl rfl (.moveX rfl) ?_
      refine RunT.xn rfl rfl rfl rfl rfl rfl ?_
      refine RunT.xn rfl rfl rfl rfl rfl rfl ?_
      refine RunT.xn rfl rfl rfl rfl rfl rfl ?_
      refine RunT.xn rfl rfl rfl rfl rfl rfl ?_
      refine RunT.ot0 (x := .v (.bool false)) rfl rfl rfl rfl (.pickF rfl rfl) ?_
      refine RunT.ot0 (x := .v (.bool false)) rfl rfl rfl rfl (.moveX rfl) ?_
      refine RunT.xn rfl rfl rfl rfl rfl rfl ?_
      refine RunT.xn rfl rfl rfl rfl rfl rfl ?_
      refine RunT.xn rfl rfl rfl rfl rfl rfl ?_
      refine RunT.xn rfl rfl rfl rfl rfl rfl ?_
      refine RunT.xn rfl rfl rfl rfl rfl rfl ?_
      refine RunT.ot0 (x := .v (.bool false)) rfl rfl rfl rfl (.pickF rfl rfl) ?_
      refine RunT.ot0 (x := .v (.bool false)) rfl rfl rfl rfl (.moveX rfl) ?_
      refine RunT.xn rfl rfl rfl rfl rfl rfl ?_
      refine RunT.xn rfl rfl rfl rfl rfl rfl ?_
      refine RunT.xn rfl rfl rfl rfl rfl rfl ?_
      refine RunT.xn rfl rfl rfl rfl rfl rfl ?_
      refine RunT.ot0 (x := .v (.bool false)) rfl rfl rfl rfl (.pickF rfl rfl) ?_
      refine RunT.ot0 (x := .v (.bool false)) rfl rfl rfl rfl (.moveX rfl) ?_
      refine RunT.xn rfl rfl rfl rfl rfl rfl ?_
      refine RunT.xn rfl rfl rfl rfl rfl rfl ?_
      refine RunT.xn rfl rfl rfl rfl rfl rfl ?_
      refine RunT.xn rfl rfl rfl rfl rfl rfl ?_
      refine RunT.xn rfl rfl rfl rfl rfl rfl ?_
      refine RunT.ot0 (x := .v (.bool false)) rfl rfl rfl rfl (.pickF rfl rfl) ?_
      refine RunT.ot0 (x := .v (.bool false)) rfl rfl rfl rfl (.moveX rfl) ?_
      refine RunT.xn rfl rfl rfl rfl rfl rfl ?_
      refine RunT.xn rfl rfl rfl rfl rfl rfl ?_
      refine RunT.xn rfl rfl rfl rfl rfl rfl ?_
      refine RunT.xn rfl rfl rfl rfl rfl rfl ?_
      refine RunT.ot0 (x := .v (.bool false)) rfl rfl rfl rfl (.pickF rfl rfl) ?_
      refine RunT.ot0 (x := .v (.bool false)) rfl rfl rfl rfl (.assignX rfl) ?_
      refine RunT.nil ?_
      obtain rfl := si H
      refine T.sub (sub_to (st' := ⟨[(0, .v (.bool false))], [], 8, []⟩) [] (by decide) rfl rfl (⟨⟨_, rfl, .one .v⟩, trivial⟩) (trivial)) ?_
      refine T.ret ?_
      exact RetOk.same [.v (.bool false)] ⟨rfl, trivial⟩ rfl rfl rfl
  · replace H := cf H g5
    refine RunT.xn rfl rfl rfl (bo g5) rfl rfl ?_
    refine RunT.xn rfl rfl rfl (bo g5) rfl rfl ?_
    refine RunT.xn rfl rfl rfl (bo g5) rfl rfl ?_
    refine RunT.xn rfl rfl rfl (bo g5) rfl rfl ?_
    refine RunT.ot0 (x := .v (.bool false)) rfl rfl rfl rfl (.pickF (bo g5) rfl) ?_
    refine RunT.ot0 (x := .v (.bool false)) rfl rfl rfl rfl (.moveX rfl) ?_
    refine RunT.xn rfl rfl rfl rfl rfl rfl ?_
    refine RunT.xn rfl rfl rfl rfl rfl rfl ?_
    refine RunT.xn rfl rfl rfl rfl rfl rfl ?_
    refine RunT.xn rfl rfl rfl rfl rfl rfl ?_
    refine RunT.ot0 (x := .v (.bool false)) rfl rfl rfl rfl (.pickF rfl rfl) ?_
    refine RunT.ot0 (x := .v (.bool false)) rfl rfl rfl rfl (.moveX rfl) ?_
    refine RunT.xn rfl rfl rfl rfl rfl rfl ?_
    refine RunT.xn rfl rfl rfl rfl rfl rfl ?_
    refine RunT.xn rfl rfl rfl rfl rfl rfl ?_
    refine RunT.ot0 (x := .v (.bool false)) rfl rfl rfl rfl (.pickF rfl rfl) ?_
    refine RunT.ot0 (x := .v (.bool false)) rfl rfl rfl rfl (.moveX rfl) ?_
    refine RunT.xn rfl rfl rfl rfl rfl rfl ?_
    refine RunT.xn rfl rfl rfl rfl rfl rfl ?_
    refine RunT.xn rfl rfl rfl rfl rfl rfl ?_
    refine RunT.xn rfl rfl rfl rfl rfl rfl ?_
    refine RunT.ot0 (x := .v (.bool false)) rfl rfl rfl rfl (.pickF rfl rfl) ?_
    refine RunT.ot0 (x := .v (.bool false)) rfl rfl rfl rfl (.moveX rfl) ?_
    refine RunT.xn rfl rfl rfl rfl rfl rfl ?_
    refine RunT.ot0 (x := .v (.bool false)) rfl rfl rfl rfl (.pickF rfl rfl) ?_
    refine RunT.ot0 (x := .v (.bool false)) rfl rfl rfl rfl (.moveX rfl) ?_
    refine RunT.xn rfl rfl rfl rfl rfl rfl ?_
    refine RunT.xn rfl rfl rfl rfl rfl rfl ?_
    refine RunT.xn rfl rfl rfl rfl rfl rfl ?_
    refine RunT.ot0 (x := .v (.bool false)) rfl rfl rfl rfl (.pickF rfl rfl) ?_
    refine RunT.ot0 (x := .v (.bool false)) rfl rfl rfl rfl (.moveX rfl) ?_
    refine RunT.xn rfl rfl rfl rfl rfl rfl ?_
    refine RunT.xn rfl rfl rfl rfl rfl rfl ?_
    refine RunT.xn rfl rfl rfl rfl rfl rfl ?_
    refine RunT.xn rfl rfl rfl rfl rfl rfl ?_
    refine RunT.ot0 (x := .v (.bool false)) rfl rfl rfl rfl (.pickF rfl rfl) ?_
    refine RunT.ot0 (x := .v (.bool false)) rfl rfl rfl rfl (.moveX rfl) ?_
    refine RunT.xn rfl rfl rfl rfl rfl rfl ?_
    refine RunT.xn rfl rfl rfl rfl rfl rfl ?_
    refine RunT.xn rfl rfl rfl rfl rfl rfl ?_
    refine RunT.xn rfl rfl rfl rfl rfl rfl ?_
    refine RunT.xn rfl rfl rfl rfl rfl rfl ?_
    refine RunT.ot0 (x := .v (.bool false)) rfl rfl rfl rfl (.pickF rfl rfl) ?_
    refine RunT.ot0 (x := .v (.bool false)) rfl rfl rfl rfl (.moveX rfl) ?_
    refine RunT.xn rfl rfl rfl rfl rfl rfl ?_
    refine RunT.xn rfl rfl rfl rfl rfl rfl ?_
    refine RunT.xn rfl rfl rfl rfl rfl rfl ?_
    refine RunT.xn rfl rfl rfl rfl rfl rfl ?_
    refine RunT.xn rfl rfl rfl rfl rfl rfl ?_
    refine RunT.ot0 (x := .v (.bool false)) rfl rfl rfl rfl (.pickF rfl rfl) ?_
    refine RunT.ot0 (x := .v (.bool false)) rfl rfl rfl rfl (.moveX rfl) ?_
    refine RunT.xn rfl rfl rfl rfl rfl rfl ?_
    refine RunT.xn rfl rfl rfl rfl rfl rfl ?_
    refine RunT.xn rfl rfl rfl rfl rfl rfl ?_
    refine RunT.xn rfl rfl rfl rfl rfl rfl ?_
    refine RunT.xn rfl rfl rfl rfl rfl rfl ?_
    refine RunT.ot0 (x := .v (.bool false)) rfl rfl rfl rfl (.pickF rfl rfl) ?_
    refine RunT.ot0 (x := .v (.bool false)) rfl rfl rfl rfl (.moveX rfl) ?_
    refine RunT.xn rfl rfl rfl rfl rfl rfl ?_
    refine RunT.xn rfl rfl rfl rfl rfl rfl ?_
    refine RunT.xn rfl rfl rfl rfl rfl rfl ?_
    refine RunT.xn rfl rfl rfl rfl rfl rfl ?_
    refine RunT.ot0 (x := .v (.bool false)) rfl rfl rfl rfl (.pickF rfl rfl) ?_
    refine RunT.ot0 (x := .v (.bool false)) rfl rfl rfl rfl (.moveX rfl) ?_
    refine RunT.xn rfl rfl rfl rfl rfl rfl ?_
    refine RunT.xn rfl rfl rfl rfl rfl rfl ?_
    refine RunT.xn rfl rfl rfl rfl rfl rfl ?_
    refine RunT.xn rfl rfl rfl rfl rfl rfl ?_
    refine RunT.xn rfl rfl rfl rfl rfl rfl ?_
    refine RunT.ot0 (x := .v (.bool false)) rfl rfl rfl rfl (.pickF rfl rfl) ?_
    refine RunT.ot0 (x := .v (.bool false)) rfl rfl rfl rfl (.moveX rfl) ?_
    refine RunT.xn rfl rfl rfl rfl rfl rfl ?_
    refine RunT.xn rfl rfl rfl rfl rfl rfl ?_
    refine RunT.xn rfl rfl rfl rfl rfl rfl ?_
    refine RunT.xn rfl rfl rfl rfl rfl rfl ?_
    refine RunT.ot0 (x := .v (.bool false)) rfl rfl rfl rfl (.pickF rfl rfl) ?_
    refine RunT.ot0 (x := .v (.bool false)) rfl rfl rfl rfl (.moveX rfl) ?_
    refine RunT.xn rfl rfl rfl rfl rfl rfl ?_
    refine RunT.xn rfl rfl rfl rfl rfl rfl ?_
    refine RunT.xn rfl rfl rfl rfl rfl rfl ?_
    refine RunT.xn rfl rfl rfl rfl rfl rfl ?_
    refine RunT.xn rfl rfl rfl rfl rfl rfl ?_
    refine RunT.ot0 (x := .v (.bool false)) rfl rfl rfl rfl (.pickF rfl rfl) ?_
    refine RunT.ot0 (x := .v (.bool false)) rfl rfl rfl rfl (.moveX rfl) ?_
    refine RunT.xn rfl rfl rfl rfl rfl rfl ?_
    refine RunT.xn rfl rfl rfl rfl rfl rfl ?_
    refine RunT.xn rfl rfl rfl rfl rfl rfl ?_
    refine RunT.xn rfl rfl rfl rfl rfl rfl ?_
    refine RunT.ot0 (x := .v (.bool false)) rfl rfl rfl rfl (.pickF rfl rfl) ?_
    refine RunT.ot0 (x := .v (.bool false)) rfl rfl rfl rfl (.assignX rfl) ?_
    refine RunT.nil ?_
    obtain rfl := si H
    refine T.sub (sub_to (st' := ⟨[(0, .v (.bool false))], [], 8, []⟩) [] (by decide) rfl rfl (⟨⟨_, rfl, .one .v⟩, trivial⟩) (trivial)) ?_
    refine T.ret ?_
    exact RetOk.same [.v (.bool false)] ⟨rfl, trivial⟩ rfl rfl rfl
set_option maxHeartbeats 4000000 in
theorem law11_PlaceLong_pc (al : Bool) (k : Nat) (a0 : Int) (a1 : Int) (o : Bool) (H : law11_PlaceLong k a0 a1 = some o) : PC Try.prog al 15 [.v (.int .i64 a0), .v (.int .i64 a1)] (.v (.bool o)) := by
  unfold law11_PlaceLong at H
  refine PC.of_T Try.func15 rfl rfl (n := 73) rfl rfl (.inr rfl) ?_
  intro base B w0
  refine T.st (st' := ⟨[(0, .v (.int .i64 a0)), (1, .v (.int .i64 a1))], [], 0, []⟩) rfl ?_
  refine T.seq ?_
  refine T.region ?_
  refine RunT.ot0 (x := .v (.bool false)) rfl rfl rfl rfl (.assignX rfl) ?_
  refine RunT.nil ?_
  refine T.seq ?_
  refine T.region ?_
  refine RunT.ot0 (x := .v (.int .i64 a0)) rfl rfl rfl rfl (.moveX rfl) ?_
  refine RunT.ot0 (x := .v (.int .u64 (IntKind.u64.wrap a0))) rfl rfl rfl rfl (.conv rfl (fun w => c_int w ⟨_, Try.underlying3⟩ Try.underlying41) rfl) ?_
  refine RunT.ot0 (x := .v (.int .u64 ((IntKind.u64.wrap a0).tmod 40))) rfl rfl rfl rfl (.bin rfl rfl (fun w => b_rem w (by decide)) rfl) ?_
  refine RunT.ot0 (x := .v (.int .i64 (wr ((IntKind.u64.wrap a0).tmod 40)))) rfl rfl rfl rfl (.conv rfl (fun w => c_intw w ⟨_, Try.underlying41⟩ Try.underlying3) rfl) ?_
  refine RunT.ot0 (x := .v (.int .i64 (wr (1 + (wr ((IntKind.u64.wrap a0).tmod 40)))))) rfl rfl rfl rfl (.bin rfl rfl (fun w => b_addw w) rfl) ?_
  refine RunT.ot0 (x := .v (.int .i64 a1)) rfl rfl rfl rfl (.moveX rfl) ?_
  refine RunT.ot0 (x := .v (.int .u64 (IntKind.u64.wrap a1))) rfl rfl rfl rfl (.conv rfl (fun w => c_int w ⟨_, Try.underlying3⟩ Try.underlying41) rfl) ?_
  refine RunT.ot0 (x := .v (.int .u64 ((IntKind.u64.wrap a1).tmod 8))) rfl rfl rfl rfl (.bin rfl rfl (fun w => b_rem w (by decide)) rfl) ?_
  refine RunT.ot0 (x := .v (.int .i64 (wr ((IntKind.u64.wrap a1).tmod 8)))) rfl rfl rfl rfl (.conv rfl (fun w => c_intw w ⟨_, Try.underlying41⟩ Try.underlying3) rfl) ?_
  refine RunT.ot0 (x := .v (.int .i64 (wr (1 + (wr ((IntKind.u64.wrap a1).tmod 8)))))) rfl rfl rfl rfl (.bin rfl rfl (fun w => b_addw w) rfl) ?_
  refine RunT.ot0 (x := .v (.int .i64 (wr (1 + (wr ((IntKind.u64.wrap a0).tmod 40)))))) rfl rfl rfl rfl (.assignX rfl) ?_
  refine RunT.ot0 (x := .v (.int .i64 (wr (1 + (wr ((IntKind.u64.wrap a1).tmod 8)))))) rfl rfl rfl rfl (.assignX rfl) ?_
  refine RunT.nil ?_
  refine T.seq ?_
  refine T.region ?_
  refine RunT.ot0 (x := .agg [.v (.slice none 0 0), .v (.int .i64 10), .v (.int .i64 0), .v (.slice none 0 0), .v (.slice none 0 0)]) rfl rfl rfl rfl (.bu bu26 rfl) ?_
  refine RunT.ot1 (x := .ptr 0 0) (p0 := (0, some (.box [.v (.slice none 0 0), .v (.int .i64 0), .v (.int .i64 0), .v (.slice none 0 0), .v (.slice none 0 0)]))) (n' := 8) rfl rfl rfl rfl (.allocX in26.zero rfl rfl) rfl ?_
  refine RunT.on1 (x := .junk) (p0 := (0, some (.box [.v (.slice none 0 0), .v (.int .i64 10), .v (.int .i64 0), .v (.slice none 0 0), .v (.slice none 0 0)]))) (n' := 16) rfl rfl rfl (.storePX ty26 rfl rfl rfl rfl rfl rfl rfl) rfl ?_
  refine RunT.nil ?_
  refine T.seq ?_
  refine T.seq ?_
  refine T.sub (sub_pick [5, 6, 7] [0] (st' := ⟨[(5, .v (.int .i64 (wr (1 + (wr ((IntKind.u64.wrap a0).tmod 40)))))), (6, .v (.int .i64 (wr (1 + (wr ((IntKind.u64.wrap a1).tmod 8)))))), (7, .ptr 0 0)], [(0, some (.box [.v (.slice none 0 0), .v (.int .i64 10), .v (.int .i64 0), .v (.slice none 0 0), .v (.slice none 0 0)]))], 16, []⟩) rfl rfl rfl rfl rfl) ?_
  refine T.region ?_
  refine RunT.ot0 (x := .v (.int .i64 0)) rfl rfl rfl rfl (.assignX rfl) ?_
  refine RunT.nil ?_
  obtain ⟨o7, E8, HO9⟩ := bs H
  refine T.cutE (⟨[(5, .v (.int .i64 (wr (1 + (wr ((IntKind.u64.wrap a0).tmod 40)))))), (6, .v (.int .i64 (wr (1 + (wr ((IntKind.u64.wrap a1).tmod 8)))))), (7, .ptr 0 0)], [(0, some (.box [.own 1 0 o7.length, .v (.int .i64 10), .v (.int .i64 0), .v (.slice none 0 0), .v (.slice none 0 0)])), (1, some (.arr false 4 (List.map eSeat o7)))], 8, []⟩) ?_ ?_
  · have H := E8
    refine T.block ?_
    refine T.loopS (fun n s => ∃ (v10 : (List Seat)) (v11 : Int), law11_PlaceLong_l0 k a0 n v10 v11 = some o7 ∧ s = ⟨[(5, .v (.int .i64 (wr (1 + (wr ((IntKind.u64.wrap a0).tmod 40)))))), (6, .v (.int .i64 (wr (1 + (wr ((IntKind.u64.wrap a1).tmod 8)))))), (7, .ptr 0 0), (8, .v (.int .i64 v11))], [(0, some (.box [.own 1 0 v10.length, .v (.int .i64 10), .v (.int .i64 0), .v (.slice none 0 0), .v (.slice none 0 0)])), (1, some (.arr false 4 (List.map eSeat v10)))], 8, []⟩) k ⟨_, ⟨[], 0, H, rfl⟩, sub_to [some 0, none] (by decide) rfl rfl (⟨⟨_, rfl, .one .v⟩, ⟨⟨_, rfl, .one .v⟩, ⟨⟨_, rfl, .one (.ptr rfl)⟩, ⟨⟨_, rfl, .one .v⟩, trivial⟩⟩⟩⟩) (⟨⟨rfl, .inl ⟨_, _, rfl, rfl, .box ⟨.nilO, .v, .v, .v, .v, trivial⟩⟩⟩, ⟨⟨rfl, .inr ⟨rfl, false, _, rfl, (by decide)⟩⟩, trivial⟩⟩)⟩ ?_
    rintro n s ⟨v10, v11, H, rfl⟩
    rcases n with _ | n
    · cases (show none = some _ from H)
    rw [law11_PlaceLong_l0] at H
    refine T.seq ?_
    refine T.seq ?_
    refine T.region ?_
    refine RunT.ot0 (x := .v (.int .i64 v11)) rfl rfl rfl rfl (.moveX rfl) ?_
    refine RunT.ot0 (x := .v (.int .i64 (wr (1 + (wr ((IntKind.u64.wrap a0).tmod 40)))))) rfl rfl rfl rfl (.moveX rfl) ?_
    refine RunT.ot0 (x := .v (.bool (decide (v11 < (wr (1 + (wr ((IntKind.u64.wrap a0).tmod 40)))))))) rfl rfl rfl rfl (.bin rfl rfl (fun w => b_lss w) rfl) ?_
    refine RunT.nil ?_
    refine T.cond2 (t := decide (v11 < (wr (1 + (wr ((IntKind.u64.wrap a0).tmod 40)))))) rfl (fun c12 => ?_) (fun c12 => ?_)
    · replace H := ct H c12
      refine T.skip ?_
      refine T.seq ?_
      refine T.block ?_
      refine T.sub (sub_pick [5, 6, 7, 8] [0, 1] (st' := ⟨[(5, .v (.int .i64 (wr (1 + (wr ((IntKind.u64.wrap a0).tmod 40)))))), (6, .v (.int .i64 (wr (1 + (wr ((IntKind.u64.wrap a1).tmod 8)))))), (7, .ptr 0 0), (8, .v (.int .i64 v11))], [(0, some (.box [.own 1 0 v10.length, .v (.int .i64 10), .v (.int .i64 0), .v (.slice none 0 0), .v (.slice none 0 0)])), (1, some (.arr false 4 (List.map eSeat v10)))], 8, []⟩) rfl rfl rfl rfl rfl) ?_
      refine T.region ?_
      refine RunT.ot0 (x := .ptr 0 0) rfl rfl rfl rfl (.fieldPX fl26_0 rfl rfl) ?_
      refine RunT.ot0 (x := .own 1 0 v10.length) rfl rfl rfl rfl (.loadP ty22 rfl rfl rfl) ?_
      refine RunT.ot0 (x := .v (.int .i64 v11)) rfl rfl rfl rfl (.moveX rfl) ?_
      refine RunT.ot0 (x := .v (.int .i64 (wr (10 * v11)))) rfl rfl rfl rfl (.bin rfl rfl (fun w => b_mulw w) rfl) ?_
      refine RunT.ot0 (x := .agg [.v (.int .i64 0), .v (.int .i64 (wr (10 * v11))), .v (.int .i64 0), .v (.int .i64 0)]) rfl rfl rfl rfl (.bu bu28 rfl) ?_
      refine RunT.ot1 (x := .own 8 0 (([Seat.mk 0 (wr (10 * v11)) 0 0]).length)) (p0 := (8, some (.arr false 4 (List.map eSeat [Seat.mk 0 (wr (10 * v11)) 0 0])))) (n' := 16) rfl rfl rfl rfl (.bslicem (d := false) (l := [Seat.mk 0 (wr (10 * v11)) 0 0]) (f := eSeat) sl22 rfl rfl rfl enc_Seat rfl) rfl ?_
      obtain ⟨h13, H⟩ := gs H
      refine RunT.ot2 (x := .own 16 0 ((v10 ++ [Seat.mk 0 (wr (10 * v11)) 0 0]).length)) (p0 := (16, some (.arr false 4 (List.map eSeat (v10 ++ [Seat.mk 0 (wr (10 * v11)) 0 0]))))) (p1 := (1, none)) (n' := 24) rfl rfl rfl rfl (.appOn (d := false) (l := v10) (m := [Seat.mk 0 (wr (10 * v11)) 0 0]) (f := eSeat) rfl sl22 rfl rfl rfl (.ownn Try.underlying22 rfl rfl (fun h => by cases h)) rfl h13) rfl ?_
      refine RunT.ot0 (x := .ptr 0 0) rfl rfl rfl rfl (.fieldPX fl26_0 rfl rfl) ?_
      refine RunT.on1 (x := .junk) (p0 := (0, some (.box [.own 16 0 ((v10 ++ [Seat.mk 0 (wr (10 * v11)) 0 0]).length), .v (.int .i64 10), .v (.int .i64 0), .v (.slice none 0 0), .v (.slice none 0 0)]))) (n' := 32) rfl rfl rfl (.storePX ty22 rfl rfl rfl rfl rfl rfl rfl) rfl ?_
      refine RunT.nil ?_
      refine T.region ?_
      refine RunT.ot0 (x := .v (.int .i64 v11)) rfl rfl rfl rfl (.moveX rfl) ?_
      refine RunT.ot0 (x := .v (.int .i64 (wr (v11 + 1)))) rfl rfl rfl rfl (.bin rfl rfl (fun w => b_addw w) rfl) ?_
      refine RunT.ot0 (x := .v (.int .i64 (wr (v11 + 1)))) rfl rfl rfl rfl (.assignX rfl) ?_
      refine RunT.nil ?_
      exact ⟨n, Nat.lt_succ_self n, _, ⟨v10 ++ [Seat.mk 0 (wr (10 * v11)) 0 0], wr (v11 + 1), H, rfl⟩, (sub_to [some 0, some 16] (by decide) rfl rfl (⟨⟨_, rfl, .one .v⟩, ⟨⟨_, rfl, .one .v⟩, ⟨⟨_, rfl, .one (.ptr rfl)⟩, ⟨⟨_, rfl, .one .v⟩, trivial⟩⟩⟩⟩) (⟨⟨rfl, .inl ⟨_, _, rfl, rfl, .box ⟨(.own rfl), .v, .v, .v, .v, trivial⟩⟩⟩, ⟨⟨rfl, .inl ⟨_, _, rfl, rfl, .arr rfl⟩⟩, trivial⟩⟩))⟩
    · replace H := cf H c12
      refine T.exit ?_
      obtain rfl := si H
      exact (sub_to [some 0, some 1] (by decide) rfl rfl (⟨⟨_, rfl, .one .v⟩, ⟨⟨_, rfl, .one .v⟩, ⟨⟨_, rfl, .one (.ptr rfl)⟩, trivial⟩⟩⟩) (⟨⟨rfl, .inl ⟨_, _, rfl, rfl, .box ⟨(.own rfl), .v, .v, .v, .v, trivial⟩⟩⟩, ⟨⟨rfl, .inl ⟨_, _, rfl, rfl, .arr rfl⟩⟩, trivial⟩⟩))
  · intro s hS
    have H := HO9
    refine T.sub hS ?_
    refine T.seq ?_
    refine T.region ?_
    refine RunT.ot0 (x := .agg [.own 1 0 o7.length, .v (.int .i64 10), .v (.int .i64 0), .v (.slice none 0 0), .v (.slice none 0 0)]) rfl rfl rfl rfl (.loadP ty26 rfl rfl rfl) ?_
    refine RunT.ot0 (x := .v (.int .i64 (wr (1 + (wr ((IntKind.u64.wrap a1).tmod 8)))))) rfl rfl rfl rfl (.moveX rfl) ?_
    refine RunT.ot0 (x := .agg [.v (.int .i64 (wr (1 + (wr ((IntKind.u64.wrap a1).tmod 8))))), .v (.int .i64 0)]) rfl rfl rfl rfl (.bu bu66 rfl) ?_
    obtain ⟨r14, h15, H⟩ := bs H
    refine RunT.ot0 (x := .lst (List.map eI r14)) rfl rfl rfl rfl (.callp (PC.frozen (place_All_pc false k (Venue.mk o7 10 0 [] []) (Party.mk (wr (1 + (wr ((IntKind.u64.wrap a1).tmod 8)))) 0) r14 h15)) rfl ⟨(.agg' ⟨(.all rfl (List.length_map _).symm), .v, .v, .nil, .nil, trivial⟩), (.agg' ⟨.v, .v, trivial⟩), trivial⟩ rfl rfl rfl) ?_
    refine RunT.ot0 (x := .lst (List.map eI r14)) rfl rfl rfl rfl (.assignX rfl) ?_
    refine RunT.nil ?_
    refine T.seq ?_
    refine T.seq ?_
    refine T.sub (sub_pick [5, 6, 7, 9] [0, 1] (st' := ⟨[(5, .v (.int .i64 (wr (1 + (wr ((IntKind.u64.wrap a0).tmod 40)))))), (6, .v (.int .i64 (wr (1 + (wr ((IntKind.u64.wrap a1).tmod 8)))))), (7, .ptr 0 0), (9, .lst (List.map eI r14))], [(0, some (.box [.own 1 0 o7.length, .v (.int .i64 10), .v (.int .i64 0), .v (.slice none 0 0), .v (.slice none 0 0)])), (1, some (.arr false 4 (List.map eSeat o7)))], 8, []⟩) rfl rfl rfl rfl rfl) ?_
    refine T.region ?_
    refine RunT.ot0 (x := .v (.int .i64 0)) rfl rfl rfl rfl (.assignX rfl) ?_
    refine RunT.nil ?_
    obtain ⟨o25, E26, HO27⟩ := bs H
    refine T.cutPE (fun v28 => o25 = .go v28) (fun v28 => ⟨[(5, .v (.int .i64 (wr (1 + (wr ((IntKind.u64.wrap a0).tmod 40)))))), (6, .v (.int .i64 (wr (1 + (wr ((IntKind.u64.wrap a1).tmod 8)))))), (7, .ptr 0 0), (9, .lst (List.map eI r14))], [(0, some (.box [.own 1 0 o7.length, .v (.int .i64 10), .v (.int .i64 0), .v (.slice none 0 0), .v (.slice none 0 0)])), (1, some (.arr false 4 (List.map eSeat o7)))], 8, []⟩) ?_ ?_
    · have H := E26
      refine T.block ?_
      refine T.loopS (fun n s => ∃ (v29 : Int), law11_PlaceLong_l1 k r14 n v29 = some o25 ∧ s = ⟨[(5, .v (.int .i64 (wr (1 + (wr ((IntKind.u64.wrap a0).tmod 40)))))), (6, .v (.int .i64 (wr (1 + (wr ((IntKind.u64.wrap a1).tmod 8)))))), (7, .ptr 0 0), (9, .lst (List.map eI r14)), (10, .v (.int .i64 v29))], [(0, some (.box [.own 1 0 o7.length, .v (.int .i64 10), .v (.int .i64 0), .v (.slice none 0 0), .v (.slice none 0 0)])), (1, some (.arr false 4 (List.map eSeat o7)))], 8, []⟩) k ⟨_, ⟨0, H, rfl⟩, sub_to [some 0, some 1] (by decide) rfl rfl (⟨⟨_, rfl, .one .v⟩, ⟨⟨_, rfl, .one .v⟩, ⟨⟨_, rfl, .one (.ptr rfl)⟩, ⟨⟨_, rfl, .one .lst⟩, ⟨⟨_, rfl, .one .v⟩, trivial⟩⟩⟩⟩⟩) (⟨⟨rfl, .inl ⟨_, _, rfl, rfl, .box ⟨(.own rfl), .v, .v, .v, .v, trivial⟩⟩⟩, ⟨⟨rfl, .inl ⟨_, _, rfl, rfl, .arr rfl⟩⟩, trivial⟩⟩)⟩ ?_
      rintro n s ⟨v29, H, rfl⟩
      rcases n with _ | n
      · cases (show none = some _ from H)
      rw [law11_PlaceLong_l1] at H
      refine T.seq ?_
      refine T.seq ?_
      refine T.region ?_
      refine RunT.ot0 (x := .v (.int .i64 v29)) rfl rfl rfl rfl (.moveX rfl) ?_
      refine RunT.ot0 (x := .lst (List.map eI r14)) rfl rfl rfl rfl (.moveX rfl) ?_
      refine RunT.ot0 (x := .v (.int .i64 (r14.length : Int))) rfl rfl rfl rfl (.lenLm Try.underlying23 rfl rfl) ?_
      refine RunT.ot0 (x := .v (.bool (decide (v29 < (r14.length : Int))))) rfl rfl rfl rfl (.bin rfl rfl (fun w => b_lss w) rfl) ?_
      refine RunT.nil ?_
      refine T.cond2 (t := decide (v29 < (r14.length : Int))) rfl (fun c30 => ?_) (fun c30 => ?_)
      · replace H := ct H c30
        refine T.skip ?_
        refine T.seq ?_
        refine T.block ?_
        refine T.seq ?_
        refine T.region ?_
        refine RunT.ot0 (x := .lst (List.map eI r14)) rfl rfl rfl rfl (.moveX rfl) ?_
        refine RunT.ot0 (x := .v (.int .i64 v29)) rfl rfl rfl rfl (.moveX rfl) ?_
        obtain ⟨y31, h32, H⟩ := bs H
        refine RunT.ot0 (x := .rptr [.v (.int .i64 y31)]) rfl rfl rfl rfl (.idxLX h32 enc_I sl23 rfl rfl rfl) ?_
        refine RunT.ot0 (x := .v (.int .i64 y31)) rfl rfl rfl rfl (.loadR ty3 rfl rfl) ?_
        refine RunT.ot0 (x := .v (.int .i64 v29)) rfl rfl rfl rfl (.moveX rfl) ?_
        refine RunT.ot0 (x := .v (.bool (!decide (y31 = v29)))) rfl rfl rfl rfl (.bin rfl rfl (fun w => b_neq w) rfl) ?_
        refine RunT.nil ?_
        refine T.cond2 (t := !decide (y31 = v29)) rfl (fun c33 => ?_) (fun c33 => ?_)
        · replace H := ct H c33
          refine T.seq ?_
          refine T.sub (sub_pick [] [] (st' := ⟨[], [], 8, []⟩) rfl rfl rfl rfl rfl) ?_
          refine T.region ?_
          refine RunT.ot0 (x := .v (.bool false)) rfl rfl rfl rfl (.assignX rfl) ?_
          refine RunT.nil ?_
          obtain rfl := si H
          have HX := exr HO27
          obtain rfl := si HX
          refine T.sub (sub_to (st' := ⟨[(4, .v (.bool false))], [], 8, []⟩) [] (by decide) rfl rfl (⟨⟨_, rfl, .one .v⟩, trivial⟩) (trivial)) ?_
          refine T.ret ?_
          exact RetOk.same [.v (.bool false)] ⟨rfl, trivial⟩ rfl rfl rfl
        · replace H := cf H c33
          refine T.skip ?_
          refine T.region ?_
          refine RunT.ot0 (x := .v (.int .i64 v29)) rfl rfl rfl rfl (.moveX rfl) ?_
          refine RunT.ot0 (x := .v (.int .i64 (wr (v29 + 1)))) rfl rfl rfl rfl (.bin rfl rfl (fun w => b_addw w) rfl) ?_
          refine RunT.ot0 (x := .v (.int .i64 (wr (v29 + 1)))) rfl rfl rfl rfl (.assignX rfl) ?_
          refine RunT.nil ?_
          exact ⟨n, Nat.lt_succ_self n, _, ⟨wr (v29 + 1), H, rfl⟩, (sub_to [some 0, some 1] (by decide) rfl rfl (⟨⟨_, rfl, .one .v⟩, ⟨⟨_, rfl, .one .v⟩, ⟨⟨_, rfl, .one (.ptr rfl)⟩, ⟨⟨_, rfl, .one .lst⟩, ⟨⟨_, rfl, .one .v⟩, trivial⟩⟩⟩⟩⟩) (⟨⟨rfl, .inl ⟨_, _, rfl, rfl, .box ⟨(.own rfl), .v, .v, .v, .v, trivial⟩⟩⟩, ⟨⟨rfl, .inl ⟨_, _, rfl, rfl, .arr rfl⟩⟩, trivial⟩⟩))⟩
      · replace H := cf H c30
        refine T.exit ?_
        obtain rfl := si H
        exact ⟨_, rfl, (sub_to [some 0, some 1] (by decide) rfl rfl (⟨⟨_, rfl, .one .v⟩, ⟨⟨_, rfl, .one .v⟩, ⟨⟨_, rfl, .one (.ptr rfl)⟩, ⟨⟨_, rfl, .one .lst⟩, trivial⟩⟩⟩⟩) (⟨⟨rfl, .inl ⟨_, _, rfl, rfl, .box ⟨(.own rfl), .v, .v, .v, .v, trivial⟩⟩⟩, ⟨⟨rfl, .inl ⟨_, _, rfl, rfl, .arr rfl⟩⟩, trivial⟩⟩))⟩
    · intro v28 s hR hS
      subst hR
      have H := exg HO27
      refine T.sub hS ?_
      refine T.seq ?_
      refine T.region ?_
      obtain ⟨r34, h35, H⟩ := bs H
      refine RunT.ot0 (x := .v (.bool r34)) rfl rfl rfl rfl (.callp (law11_told_pc false k  r34 h35) rfl trivial rfl rfl rfl) ?_
      refine RunT.ot0 (x := .v (.bool r34)) rfl rfl rfl rfl (.moveX rfl) ?_
      refine RunT.cases (t := 52) (c := r34) rfl (fun g36 => ?_) (fun g36 => ?_)
      · replace H := ct H g36
        refine RunT.gt0 (x := .lst (List.map eI r14)) rfl rfl rfl (bo g36) rfl rfl (.moveX rfl) ?_
        refine RunT.gt0 (x := .v (.int .i64 (r14.length : Int))) rfl rfl rfl (bo g36) rfl rfl (.lenLm Try.underlying23 rfl rfl) ?_
        refine RunT.gt0 (x := .v (.int .i64 (wr (1 + (wr ((IntKind.u64.wrap a0).tmod 40)))))) rfl rfl rfl (bo g36) rfl rfl (.moveX rfl) ?_
        refine RunT.gt0 (x := .v (.int .i64 (wr (1 + (wr ((IntKind.u64.wrap a1).tmod 8)))))) rfl rfl rfl (bo g36) rfl rfl (.moveX rfl) ?_
        refine RunT.gt0 (x := .v (.int .i64 (wr ((wr (1 + (wr ((IntKind.u64.wrap a0).tmod 40)))) - (wr (1 + (wr ((IntKind.u64.wrap a1).tmod 8)))))))) rfl rfl rfl (bo g36) rfl rfl (.bin rfl rfl (fun w => b_subw w) rfl) ?_
        refine RunT.gt0 (x := .v (.int .i64 (wr ((wr ((wr (1 + (wr ((IntKind.u64.wrap a0).tmod 40)))) - (wr (1 + (wr ((IntKind.u64.wrap a1).tmod 8)))))) + 1)))) rfl rfl rfl (bo g36) rfl rfl (.bin rfl rfl (fun w => b_addw w) rfl) ?_
        refine RunT.gt0 (x := .v (.int .i64 (if 0 > (wr ((wr ((wr (1 + (wr ((IntKind.u64.wrap a0).tmod 40)))) - (wr (1 + (wr ((IntKind.u64.wrap a1).tmod 8)))))) + 1)) then 0 else (wr ((wr ((wr (1 + (wr ((IntKind.u64.wrap a0).tmod 40)))) - (wr (1 + (wr ((IntKind.u64.wrap a1).tmod 8)))))) + 1))))) rfl rfl rfl (bo g36) rfl rfl (.max rfl rfl) ?_
        refine RunT.gt0 (x := .v (.bool (decide ((r14.length : Int) = (if 0 > (wr ((wr ((wr (1 + (wr ((IntKind.u64.wrap a0).tmod 40)))) - (wr (1 + (wr ((IntKind.u64.wrap a1).tmod 8)))))) + 1)) then 0 else (wr ((wr ((wr (1 + (wr ((IntKind.u64.wrap a0).tmod 40)))) - (wr (1 + (wr ((IntKind.u64.wrap a1).tmod 8)))))) + 1))))))) rfl rfl rfl (bo g36) rfl rfl (.bin rfl rfl (fun w => b_eql w) rfl) ?_
        refine RunT.ot0 (x := .v (.bool (decide ((r14.length : Int) = (if 0 > (wr ((wr ((wr (1 + (wr ((IntKind.u64.wrap a0).tmod 40)))) - (wr (1 + (wr ((IntKind.u64.wrap a1).tmod 8)))))) + 1)) then 0 else (wr ((wr ((wr (1 + (wr ((IntKind.u64.wrap a0).tmod 40)))) - (wr (1 + (wr ((IntKind.u64.wrap a1).tmod 8)))))) + 1))))))) rfl rfl rfl rfl (.pickT (bo g36) rfl) ?_
        refine RunT.ot0 (x := .v (.bool (decide ((r14.length : Int) = (if 0 > (wr ((wr ((wr (1 + (wr ((IntKind.u64.wrap a0).tmod 40)))) - (wr (1 + (wr ((IntKind.u64.wrap a1).tmod 8)))))) + 1)) then 0 else (wr ((wr ((wr (1 + (wr ((IntKind.u64.wrap a0).tmod 40)))) - (wr (1 + (wr ((IntKind.u64.wrap a1).tmod 8)))))) + 1))))))) rfl rfl rfl rfl (.moveX rfl) ?_
        refine RunT.cases (t := 62) (c := decide ((r14.length : Int) = (if 0 > (wr ((wr ((wr (1 + (wr ((IntKind.u64.wrap a0).tmod 40)))) - (wr (1 + (wr ((IntKind.u64.wrap a1).tmod 8)))))) + 1)) then 0 else (wr ((wr ((wr (1 + (wr ((IntKind.u64.wrap a0).tmod 40)))) - (wr (1 + (wr ((IntKind.u64.wrap a1).tmod 8)))))) + 1))))) rfl (fun g37 => ?_) (fun g37 => ?_)
        · replace H := ct H g37
          refine RunT.gt0 (x := .agg [.own 1 0 o7.length, .v (.int .i64 10), .v (.int .i64 0), .v (.slice none 0 0), .v (.slice none 0 0)]) rfl rfl rfl (bo g37) rfl rfl (.loadP ty26 rfl rfl rfl) ?_
          refine RunT.gt0 (x := .agg [.v (.int .i64 2), .v (.int .i64 1)]) rfl rfl rfl (bo g37) rfl rfl (.bu bu66 rfl) ?_
          obtain ⟨r38, h39, H⟩ := bs H
          refine RunT.gt0 (x := .lst (List.map eI r38)) rfl rfl rfl (bo g37) rfl rfl (.callp (PC.frozen (place_All_pc false k (Venue.mk o7 10 0 [] []) (Party.mk 2 1) r38 h39)) rfl ⟨(.agg' ⟨(.all rfl (List.length_map _).symm), .v, .v, .nil, .nil, trivial⟩), (.agg' ⟨.v, .v, trivial⟩), trivial⟩ rfl rfl rfl) ?_
          refine RunT.gt0 (x := .v (.int .i64 (r38.length : Int))) rfl rfl rfl (bo g37) rfl rfl (.lenLm Try.underlying23 rfl rfl) ?_
          refine RunT.gt0 (x := .v (.bool (decide ((r38.length : Int) = 0)))) rfl rfl rfl (bo g37) rfl rfl (.bin rfl rfl (fun w => b_eql w) rfl) ?_
          refine RunT.ot0 (x := .v (.bool (decide ((r38.length : Int) = 0)))) rfl rfl rfl rfl (.pickT (bo g37) rfl) ?_
          refine RunT.ot0 (x := .v (.bool (decide ((r38.length : Int) = 0)))) rfl rfl rfl rfl (.moveX rfl) ?_
          refine RunT.cases (t := 69) (c := decide ((r38.length : Int) = 0)) rfl (fun g40 => ?_) (fun g40 => ?_)
          · replace H := ct H g40
            refine RunT.gt0 (x := .agg [.own 1 0 o7.length, .v (.int .i64 10), .v (.int .i64 0), .v (.slice none 0 0), .v (.slice none 0 0)]) rfl rfl rfl (bo g40) rfl rfl (.loadP ty26 rfl rfl rfl) ?_
            obtain ⟨r41, h42, H⟩ := bs H
            refine RunT.gt0 (x := .v (.bool r41)) rfl rfl rfl (bo g40) rfl rfl (.callp (law3_Few_pc false k (Venue.mk o7 10 0 [] []) r41 h42) rfl ⟨(.agg' ⟨(.all rfl (List.length_map _).symm), .v, .v, .nil, .nil, trivial⟩), trivial⟩ rfl rfl rfl) ?_
            refine RunT.ot0 (x := .v (.bool r41)) rfl rfl rfl rfl (.pickT (bo g40) rfl) ?_
            refine RunT.ot0 (x := .v (.bool r41)) rfl rfl rfl rfl (.assignX rfl) ?_
            refine RunT.nil ?_
            obtain rfl := si H
            refine T.sub (sub_to (st' := ⟨[(4, .v (.bool r41))], [], 8, []⟩) [] (by decide) rfl rfl (⟨⟨_, rfl, .one .v⟩, trivial⟩) (trivial)) ?_
            refine T.ret ?_
            exact RetOk.same [.v (.bool r41)] ⟨rfl, trivial⟩ rfl rfl rfl
          · replace H := cf H g40
            refine RunT.xn rfl rfl rfl (bo g40) rfl rfl ?_
            refine RunT.xn rfl rfl rfl (bo g40) rfl rfl ?_
            refine RunT.ot0 (x := .v (.bool false)) rfl rfl rfl rfl (.pickF (bo g40) rfl) ?_
            refine RunT.ot0 (x := .v (.bool false)) rfl rfl rfl rfl (.assignX rfl) ?_
            refine RunT.nil ?_
            obtain rfl := si H
            refine T.sub (sub_to (st' := ⟨[(4, .v (.bool false))], [], 8, []⟩) [] (by decide) rfl rfl (⟨⟨_, rfl, .one .v⟩, trivial⟩) (trivial)) ?_
            refine T.ret ?_
            exact RetOk.same [.v (.bool false)] ⟨rfl, trivial⟩ rfl rfl rfl
        · replace H := cf H g37
          refine RunT.xn rfl rfl rfl (bo g37) rfl rfl ?_
          refine RunT.xn rfl rfl rfl (bo g37) rfl rfl ?_
          refine RunT.xn rfl rfl rfl (bo g37) rfl rfl ?_
          refine RunT.xn rfl rfl rfl (bo g37) rfl rfl ?_
          refine RunT.xn rfl rfl rfl (bo g37) rfl rfl ?_
          refine RunT.ot0 (x := .v (.bool false)) rfl rfl rfl rfl (.pickF (bo g37) rfl) ?_
          refine RunT.ot0 (x := .v (.bool false)) rfl rfl rfl rfl (.moveX rfl) ?_
          refine RunT.xn rfl rfl rfl rfl rfl rfl ?_
          refine RunT.xn rfl rfl rfl rfl rfl rfl ?_
          refine RunT.ot0 (x := .v (.bool false)) rfl rfl rfl rfl (.pickF rfl rfl) ?_
          refine RunT.ot0 (x := .v (.bool false)) rfl rfl rfl rfl (.assignX rfl) ?_
          refine RunT.nil ?_
          obtain rfl := si H
          refine T.sub (sub_to (st' := ⟨[(4, .v (.bool false))], [], 8, []⟩) [] (by decide) rfl rfl (⟨⟨_, rfl, .one .v⟩, trivial⟩) (trivial)) ?_
          refine T.ret ?_
          exact RetOk.same [.v (.bool false)] ⟨rfl, trivial⟩ rfl rfl rfl
      · replace H := cf H g36
        refine RunT.xn rfl rfl rfl (bo g36) rfl rfl ?_
        refine RunT.xn rfl rfl rfl (bo g36) rfl rfl ?_
        refine RunT.xn rfl rfl rfl (bo g36) rfl rfl ?_
        refine RunT.xn rfl rfl rfl (bo g36) rfl rfl ?_
        refine RunT.xn rfl rfl rfl (bo g36) rfl rfl ?_
        refine RunT.xn rfl rfl rfl (bo g36) rfl rfl ?_
        refine RunT.xn rfl rfl rfl (bo g36) rfl rfl ?_
        refine RunT.xn rfl rfl rfl (bo g36) rfl rfl ?_
        refine RunT.ot0 (x := .v (.bool false)) rfl rfl rfl rfl (.pickF (bo g36) rfl) ?_
        refine RunT.ot0 (x := .v (.bool false)) rfl rfl rfl rfl (.moveX rfl) ?_
        refine RunT.xn rfl rfl rfl rfl rfl rfl ?_
        refine RunT.xn rfl rfl rfl rfl rfl rfl ?_
        refine RunT.xn rfl rfl rfl rfl rfl rfl ?_
        refine RunT.xn rfl rfl rfl rfl rfl rfl ?_
        refine RunT.xn rfl rfl rfl rfl rfl rfl ?_
        refine RunT.ot0 (x := .v (.bool false)) rfl rfl rfl rfl (.pickF rfl rfl) ?_
        refine RunT.ot0 (x := .v (.bool false)) rfl rfl rfl rfl (.moveX rfl) ?_
        refine RunT.xn rfl rfl rfl rfl rfl rfl ?_
        refine RunT.xn rfl rfl rfl rfl rfl rfl ?_
        refine RunT.ot0 (x := .v (.bool false)) rfl rfl rfl rfl (.pickF rfl rfl) ?_
        refine RunT.ot0 (x := .v (.bool false)) rfl rfl rfl rfl (.assignX rfl) ?_
        refine RunT.nil ?_
        obtain rfl := si H
        refine T.sub (sub_to (st' := ⟨[(4, .v (.bool false))], [], 8, []⟩) [] (by decide) rfl rfl (⟨⟨_, rfl, .one .v⟩, trivial⟩) (trivial)) ?_
        refine T.ret ?_
        exact RetOk.same [.v (.bool false)] ⟨rfl, trivial⟩ rfl rfl rfl
end Go.Proofs.Ytlfpkjlaajfjnaa
