/- The Go functions come to just what their plain forms come to: one contract each. -/
import Derived.Test.YtlfpkjlaajfjnaaYPlaceKilled1
set_option linter.unusedVariables false
set_option linter.unusedSimpArgs false
set_option maxRecDepth 100000
namespace Go.Proofs.Ytlfpkjlaajfjnaa
open Go Go.Sh Go.Px
attribute [local irreducible] Go.Sh.T Go.Sh.RunT Go.Sh.RunD
set_option maxHeartbeats 4000000 in
theorem law11_told_pc (al : Bool) (k : Nat)  (o : Bool) (H : law11_told k  = some o) : PC Try.prog al 59 [] (.v (.bool o)) := by
  unfold law11_told at H
  refine PC.of_T Try.func59 rfl rfl (n := 117) rfl rfl (.inr rfl) ?_
  intro base B w0
  refine T.st (st' := ⟨[], [], 0, []⟩) rfl ?_
  refine T.seq ?_
  refine T.region ?_
  refine RunT.ot0 (x := .v (.bool false)) rfl rfl rfl rfl (.assignX rfl) ?_
  refine RunT.nil ?_
  refine T.seq ?_
  refine T.region ?_
  refine RunT.ot0 (x := .agg [.v (.int .i64 0), .v (.int .i64 0), .v (.int .i64 0), .v (.int .i64 0)]) rfl rfl rfl rfl (.bu bu28 rfl) ?_
  refine RunT.ot0 (x := .agg [.v (.int .i64 0), .v (.int .i64 10), .v (.int .i64 0), .v (.int .i64 2)]) rfl rfl rfl rfl (.bu bu28 rfl) ?_
  refine RunT.ot0 (x := .agg [.v (.int .i64 0), .v (.int .i64 20), .v (.int .i64 0), .v (.int .i64 1)]) rfl rfl rfl rfl (.bu bu28 rfl) ?_
  refine RunT.ot0 (x := .agg [.v (.int .i64 0), .v (.int .i64 30), .v (.int .i64 0), .v (.int .i64 0)]) rfl rfl rfl rfl (.bu bu28 rfl) ?_
  refine RunT.ot0 (x := .agg [.v (.int .i64 0), .v (.int .i64 40), .v (.int .i64 0), .v (.int .i64 0)]) rfl rfl rfl rfl (.bu bu28 rfl) ?_
  refine RunT.ot0 (x := .agg [.v (.int .i64 0), .v (.int .i64 50), .v (.int .i64 0), .v (.int .i64 0)]) rfl rfl rfl rfl (.bu bu28 rfl) ?_
  refine RunT.ot1 (x := .own 0 0 (([Seat.mk 0 0 0 0, Seat.mk 0 10 0 2, Seat.mk 0 20 0 1, Seat.mk 0 30 0 0, Seat.mk 0 40 0 0, Seat.mk 0 50 0 0]).length)) (p0 := (0, some (.arr false 4 (List.map eSeat [Seat.mk 0 0 0 0, Seat.mk 0 10 0 2, Seat.mk 0 20 0 1, Seat.mk 0 30 0 0, Seat.mk 0 40 0 0, Seat.mk 0 50 0 0])))) (n' := 8) rfl rfl rfl rfl (.bslicem (d := false) (l := [Seat.mk 0 0 0 0, Seat.mk 0 10 0 2, Seat.mk 0 20 0 1, Seat.mk 0 30 0 0, Seat.mk 0 40 0 0, Seat.mk 0 50 0 0]) (f := eSeat) sl22 rfl rfl rfl enc_Seat rfl) rfl ?_
  refine RunT.ot0 (x := .agg [.own 0 0 (([Seat.mk 0 0 0 0, Seat.mk 0 10 0 2, Seat.mk 0 20 0 1, Seat.mk 0 30 0 0, Seat.mk 0 40 0 0, Seat.mk 0 50 0 0]).length), .v (.int .i64 10), .v (.int .i64 15), .v (.slice none 0 0), .v (.slice none 0 0)]) rfl rfl rfl rfl (.bu bu26 rfl) ?_
  refine RunT.ot1 (x := .ptr 8 0) (p0 := (8, some (.box [.v (.slice none 0 0), .v (.int .i64 0), .v (.int .i64 0), .v (.slice none 0 0), .v (.slice none 0 0)]))) (n' := 16) rfl rfl rfl rfl (.allocX in26.zero rfl rfl) rfl ?_
  refine RunT.on1 (x := .junk) (p0 := (8, some (.box [.own 0 0 (([Seat.mk 0 0 0 0, Seat.mk 0 10 0 2, Seat.mk 0 20 0 1, Seat.mk 0 30 0 0, Seat.mk 0 40 0 0, Seat.mk 0 50 0 0]).length), .v (.int .i64 10), .v (.int .i64 15), .v (.slice none 0 0), .v (.slice none 0 0)]))) (n' := 24) rfl rfl rfl (.storePX ty26 rfl rfl rfl rfl rfl rfl rfl) rfl ?_
  refine RunT.nil ?_
  refine T.seq ?_
  refine T.region ?_
  refine RunT.ot0 (x := .agg [.v (.int .i64 1), .v (.int .i64 0)]) rfl rfl rfl rfl (.bu bu66 rfl) ?_
  refine RunT.ot0 (x := .agg [.v (.int .i64 2), .v (.int .i64 0)]) rfl rfl rfl rfl (.bu bu66 rfl) ?_
  refine RunT.ot0 (x := .agg [.v (.int .i64 2), .v (.int .i64 1)]) rfl rfl rfl rfl (.bu bu66 rfl) ?_
  refine RunT.ot1 (x := .ptr 24 0) (p0 := (24, some (.box [.v (.int .i64 0), .v (.int .i64 0)]))) (n' := 32) rfl rfl rfl rfl (.allocX in66.zero rfl rfl) rfl ?_
  refine RunT.ot1 (x := .ptr 32 0) (p0 := (32, some (.box [.v (.int .i64 0), .v (.int .i64 0)]))) (n' := 40) rfl rfl rfl rfl (.allocX in66.zero rfl rfl) rfl ?_
  refine RunT.ot1 (x := .ptr 40 0) (p0 := (40, some (.box [.v (.int .i64 0), .v (.int .i64 0)]))) (n' := 48) rfl rfl rfl rfl (.allocX in66.zero rfl rfl) rfl ?_
  refine RunT.on1 (x := .junk) (p0 := (24, some (.box [.v (.int .i64 1), .v (.int .i64 0)]))) (n' := 56) rfl rfl rfl (.storePX ty66 rfl rfl rfl rfl rfl rfl rfl) rfl ?_
  refine RunT.on1 (x := .junk) (p0 := (32, some (.box [.v (.int .i64 2), .v (.int .i64 0)]))) (n' := 64) rfl rfl rfl (.storePX ty66 rfl rfl rfl rfl rfl rfl rfl) rfl ?_
  refine RunT.on1 (x := .junk) (p0 := (40, some (.box [.v (.int .i64 2), .v (.int .i64 1)]))) (n' := 72) rfl rfl rfl (.storePX ty66 rfl rfl rfl rfl rfl rfl rfl) rfl ?_
  refine RunT.nil ?_
  refine T.seq ?_
  refine T.sub (sub_pick [1, 2, 3, 4] [0, 8, 24, 32, 40] (st' := ⟨[(1, .ptr 8 0), (2, .ptr 24 0), (3, .ptr 32 0), (4, .ptr 40 0)], [(0, some (.arr false 4 (List.map eSeat [Seat.mk 0 0 0 0, Seat.mk 0 10 0 2, Seat.mk 0 20 0 1, Seat.mk 0 30 0 0, Seat.mk 0 40 0 0, Seat.mk 0 50 0 0]))), (8, some (.box [.own 0 0 (([Seat.mk 0 0 0 0, Seat.mk 0 10 0 2, Seat.mk 0 20 0 1, Seat.mk 0 30 0 0, Seat.mk 0 40 0 0, Seat.mk 0 50 0 0]).length), .v (.int .i64 10), .v (.int .i64 15), .v (.slice none 0 0), .v (.slice none 0 0)])), (24, some (.box [.v (.int .i64 1), .v (.int .i64 0)])), (32, some (.box [.v (.int .i64 2), .v (.int .i64 0)])), (40, some (.box [.v (.int .i64 2), .v (.int .i64 1)]))], 72, []⟩) rfl rfl rfl rfl rfl) ?_
  refine T.region ?_
  refine RunT.ot0 (x := .agg [.own 0 0 (([Seat.mk 0 0 0 0, Seat.mk 0 10 0 2, Seat.mk 0 20 0 1, Seat.mk 0 30 0 0, Seat.mk 0 40 0 0, Seat.mk 0 50 0 0]).length), .v (.int .i64 10), .v (.int .i64 15), .v (.slice none 0 0), .v (.slice none 0 0)]) rfl rfl rfl rfl (.loadP ty26 rfl rfl rfl) ?_
  refine RunT.ot0 (x := .agg [.v (.int .i64 2), .v (.int .i64 1)]) rfl rfl rfl rfl (.loadP ty66 rfl rfl rfl) ?_
  obtain ⟨r1, h2, H⟩ := bs H
  refine RunT.ot0 (x := .tup [.lst (List.map eI r1.1), .v (.bool r1.2)]) rfl rfl rfl rfl (.callp (PC.frozen (place_Seats_pc false k (Venue.mk [Seat.mk 0 0 0 0, Seat.mk 0 10 0 2, Seat.mk 0 20 0 1, Seat.mk 0 30 0 0, Seat.mk 0 40 0 0, Seat.mk 0 50 0 0] 10 15 [] []) (Party.mk 2 1) 1 r1 h2)) rfl ⟨(.agg' ⟨(.all rfl (List.length_map _).symm), .v, .v, .nil, .nil, trivial⟩), (.agg' ⟨.v, .v, trivial⟩), (.one .v), trivial⟩ rfl rfl rfl) ?_
  refine RunT.ot0 (x := .tup [.lst (List.map eI r1.1), .v (.bool r1.2)]) rfl rfl rfl rfl (.moveX rfl) ?_
  refine RunT.ot0 (x := .lst (List.map eI r1.1)) rfl rfl rfl rfl (.extract rfl rfl) ?_
  refine RunT.ot0 (x := .v (.bool r1.2)) rfl rfl rfl rfl (.extract rfl rfl) ?_
  refine RunT.ot0 (x := .lst (List.map eI r1.1)) rfl rfl rfl rfl (.assignX rfl) ?_
  refine RunT.ot0 (x := .v (.bool r1.2)) rfl rfl rfl rfl (.assignX rfl) ?_
  refine RunT.nil ?_
  refine T.seq ?_
  refine T.region ?_
  refine RunT.ot0 (x := .agg [.own 0 0 (([Seat.mk 0 0 0 0, Seat.mk 0 10 0 2, Seat.mk 0 20 0 1, Seat.mk 0 30 0 0, Seat.mk 0 40 0 0, Seat.mk 0 50 0 0]).length), .v (.int .i64 10), .v (.int .i64 15), .v (.slice none 0 0), .v (.slice none 0 0)]) rfl rfl rfl rfl (.loadP ty26 rfl rfl rfl) ?_
  refine RunT.ot0 (x := .agg [.v (.int .i64 1), .v (.int .i64 0)]) rfl rfl rfl rfl (.loadP ty66 rfl rfl rfl) ?_
  obtain ⟨r3, h4, H⟩ := bs H
  refine RunT.ot0 (x := .v (.bool r3)) rfl rfl rfl rfl (.callp (place_May_pc false k (Venue.mk [Seat.mk 0 0 0 0, Seat.mk 0 10 0 2, Seat.mk 0 20 0 1, Seat.mk 0 30 0 0, Seat.mk 0 40 0 0, Seat.mk 0 50 0 0] 10 15 [] []) (Party.mk 1 0) 0 r3 h4) rfl ⟨(.agg' ⟨(.all rfl (List.length_map _).symm), .v, .v, .nil, .nil, trivial⟩), (.agg' ⟨.v, .v, trivial⟩), (.one .v), trivial⟩ rfl rfl rfl) ?_
  refine RunT.ot0 (x := .v (.bool r3)) rfl rfl rfl rfl (.moveX rfl) ?_
  refine RunT.cases (t := 27) (c := r3) rfl (fun g5 => ?_) (fun g5 => ?_)
  · replace H := ct H g5
    refine RunT.gt0 (x := .agg [.own 0 0 (([Seat.mk 0 0 0 0, Seat.mk 0 10 0 2, Seat.mk 0 20 0 1, Seat.mk 0 30 0 0, Seat.mk 0 40 0 0, Seat.mk 0 50 0 0]).length), .v (.int .i64 10), .v (.int .i64 15), .v (.slice none 0 0), .v (.slice none 0 0)]) rfl rfl rfl (bo g5) rfl rfl (.loadP ty26 rfl rfl rfl) ?_
    refine RunT.gt0 (x := .agg [.v (.int .i64 1), .v (.int .i64 0)]) rfl rfl rfl (bo g5) rfl rfl (.loadP ty66 rfl rfl rfl) ?_
    obtain ⟨r6, h7, H⟩ := bs H
    refine RunT.gt0 (x := .v (.bool r6)) rfl rfl rfl (bo g5) rfl rfl (.callp (place_May_pc false k (Venue.mk [Seat.mk 0 0 0 0, Seat.mk 0 10 0 2, Seat.mk 0 20 0 1, Seat.mk 0 30 0 0, Seat.mk 0 40 0 0, Seat.mk 0 50 0 0] 10 15 [] []) (Party.mk 1 0) 1 r6 h7) rfl ⟨(.agg' ⟨(.all rfl (List.length_map _).symm), .v, .v, .nil, .nil, trivial⟩), (.agg' ⟨.v, .v, trivial⟩), (.one .v), trivial⟩ rfl rfl rfl) ?_
    refine RunT.gt0 (x := .v (.bool (!r6))) rfl rfl rfl (bo g5) rfl rfl (.un rfl (fun w => u_not w) rfl) ?_
    refine RunT.ot0 (x := .v (.bool (!r6))) rfl rfl rfl rfl (.pickT (bo g5) rfl) ?_
    refine RunT.ot0 (x := .v (.bool (!r6))) rfl rfl rfl rfl (.moveX rfl) ?_
    refine RunT.cases (t := 33) (c := !r6) rfl (fun g8 => ?_) (fun g8 => ?_)
    · replace H := ct H g8
      refine RunT.gt0 (x := .agg [.own 0 0 (([Seat.mk 0 0 0 0, Seat.mk 0 10 0 2, Seat.mk 0 20 0 1, Seat.mk 0 30 0 0, Seat.mk 0 40 0 0, Seat.mk 0 50 0 0]).length), .v (.int .i64 10), .v (.int .i64 15), .v (.slice none 0 0), .v (.slice none 0 0)]) rfl rfl rfl (bo g8) rfl rfl (.loadP ty26 rfl rfl rfl) ?_
      refine RunT.gt0 (x := .agg [.v (.int .i64 1), .v (.int .i64 0)]) rfl rfl rfl (bo g8) rfl rfl (.loadP ty66 rfl rfl rfl) ?_
      obtain ⟨r9, h10, H⟩ := bs H
      refine RunT.gt0 (x := .v (.bool r9)) rfl rfl rfl (bo g8) rfl rfl (.callp (place_May_pc false k (Venue.mk [Seat.mk 0 0 0 0, Seat.mk 0 10 0 2, Seat.mk 0 20 0 1, Seat.mk 0 30 0 0, Seat.mk 0 40 0 0, Seat.mk 0 50 0 0] 10 15 [] []) (Party.mk 1 0) 2 r9 h10) rfl ⟨(.agg' ⟨(.all rfl (List.length_map _).symm), .v, .v, .nil, .nil, trivial⟩), (.agg' ⟨.v, .v, trivial⟩), (.one .v), trivial⟩ rfl rfl rfl) ?_
      refine RunT.gt0 (x := .v (.bool (!r9))) rfl rfl rfl (bo g8) rfl rfl (.un rfl (fun w => u_not w) rfl) ?_
      refine RunT.ot0 (x := .v (.bool (!r9))) rfl rfl rfl rfl (.pickT (bo g8) rfl) ?_
      refine RunT.ot0 (x := .v (.bool (!r9))) rfl rfl rfl rfl (.moveX rfl) ?_
      refine RunT.cases (t := 39) (c := !r9) rfl (fun g11 => ?_) (fun g11 => ?_)
      · replace H := ct H g11
        refine RunT.gt0 (x := .agg [.own 0 0 (([Seat.mk 0 0 0 0, Seat.mk 0 10 0 2, Seat.mk 0 20 0 1, Seat.mk 0 30 0 0, Seat.mk 0 40 0 0, Seat.mk 0 50 0 0]).length), .v (.int .i64 10), .v (.int .i64 15), .v (.slice none 0 0), .v (.slice none 0 0)]) rfl rfl rfl (bo g11) rfl rfl (.loadP ty26 rfl rfl rfl) ?_
        refine RunT.gt0 (x := .agg [.v (.int .i64 2), .v (.int .i64 1)]) rfl rfl rfl (bo g11) rfl rfl (.loadP ty66 rfl rfl rfl) ?_
        obtain ⟨r12, h13, H⟩ := bs H
        refine RunT.gt0 (x := .v (.bool r12)) rfl rfl rfl (bo g11) rfl rfl (.callp (place_May_pc false k (Venue.mk [Seat.mk 0 0 0 0, Seat.mk 0 10 0 2, Seat.mk 0 20 0 1, Seat.mk 0 30 0 0, Seat.mk 0 40 0 0, Seat.mk 0 50 0 0] 10 15 [] []) (Party.mk 2 1) 1 r12 h13) rfl ⟨(.agg' ⟨(.all rfl (List.length_map _).symm), .v, .v, .nil, .nil, trivial⟩), (.agg' ⟨.v, .v, trivial⟩), (.one .v), trivial⟩ rfl rfl rfl) ?_
        refine RunT.ot0 (x := .v (.bool r12)) rfl rfl rfl rfl (.pickT (bo g11) rfl) ?_
        refine RunT.ot0 (x := .v (.bool r12)) rfl rfl rfl rfl (.moveX rfl) ?_
        refine RunT.cases (t := 44) (c := r12) rfl (fun g14 => ?_) (fun g14 => ?_)
        · replace H := ct H g14
          refine RunT.gt0 (x := .agg [.own 0 0 (([Seat.mk 0 0 0 0, Seat.mk 0 10 0 2, Seat.mk 0 20 0 1, Seat.mk 0 30 0 0, Seat.mk 0 40 0 0, Seat.mk 0 50 0 0]).length), .v (.int .i64 10), .v (.int .i64 15), .v (.slice none 0 0), .v (.slice none 0 0)]) rfl rfl rfl (bo g14) rfl rfl (.loadP ty26 rfl rfl rfl) ?_
          refine RunT.gt0 (x := .agg [.v (.int .i64 2), .v (.int .i64 1)]) rfl rfl rfl (bo g14) rfl rfl (.loadP ty66 rfl rfl rfl) ?_
          obtain ⟨r15, h16, H⟩ := bs H
          refine RunT.gt0 (x := .v (.bool r15)) rfl rfl rfl (bo g14) rfl rfl (.callp (place_May_pc false k (Venue.mk [Seat.mk 0 0 0 0, Seat.mk 0 10 0 2, Seat.mk 0 20 0 1, Seat.mk 0 30 0 0, Seat.mk 0 40 0 0, Seat.mk 0 50 0 0] 10 15 [] []) (Party.mk 2 1) 2 r15 h16) rfl ⟨(.agg' ⟨(.all rfl (List.length_map _).symm), .v, .v, .nil, .nil, trivial⟩), (.agg' ⟨.v, .v, trivial⟩), (.one .v), trivial⟩ rfl rfl rfl) ?_
          refine RunT.gt0 (x := .v (.bool (!r15))) rfl rfl rfl (bo g14) rfl rfl (.un rfl (fun w => u_not w) rfl) ?_
          refine RunT.ot0 (x := .v (.bool (!r15))) rfl rfl rfl rfl (.pickT (bo g14) rfl) ?_
          refine RunT.ot0 (x := .v (.bool (!r15))) rfl rfl rfl rfl (.moveX rfl) ?_
          refine RunT.cases (t := 50) (c := !r15) rfl (fun g17 => ?_) (fun g17 => ?_)
          · replace H := ct H g17
            refine RunT.gt0 (x := .v (.bool r1.2)) rfl rfl rfl (bo g17) rfl rfl (.moveX rfl) ?_
            refine RunT.ot0 (x := .v (.bool r1.2)) rfl rfl rfl rfl (.pickT (bo g17) rfl) ?_
            refine RunT.ot0 (x := .v (.bool r1.2)) rfl rfl rfl rfl (.moveX rfl) ?_
            refine RunT.cases (t := 53) (c := r1.2) rfl (fun g18 => ?_) (fun g18 => ?_)
            · replace H := ct H g18
              refine RunT.gt0 (x := .lst (List.map eI r1.1)) rfl rfl rfl (bo g18) rfl rfl (.moveX rfl) ?_
              refine RunT.gt0 (x := .v (.int .i64 (r1.1.length : Int))) rfl rfl rfl (bo g18) rfl rfl (.lenLm Try.underlying23 rfl rfl) ?_
              refine RunT.gt0 (x := .v (.bool (decide ((r1.1.length : Int) = 2)))) rfl rfl rfl (bo g18) rfl rfl (.bin rfl rfl (fun w => b_eql w) rfl) ?_
              refine RunT.ot0 (x := .v (.bool (decide ((r1.1.length : Int) = 2)))) rfl rfl rfl rfl (.pickT (bo g18) rfl) ?_
              refine RunT.ot0 (x := .v (.bool (decide ((r1.1.length : Int) = 2)))) rfl rfl rfl rfl (.moveX rfl) ?_
              refine RunT.cases (t := 58) (c := decide ((r1.1.length : Int) = 2)) rfl (fun g19 => ?_) (fun g19 => ?_)
              · replace H := ct H g19
                refine RunT.gt0 (x := .lst (List.map eI r1.1)) rfl rfl rfl (bo g19) rfl rfl (.moveX rfl) ?_
                obtain ⟨y20, h21, H⟩ := bs H
                refine RunT.gt0 (x := .rptr [.v (.int .i64 y20)]) rfl rfl rfl (bo g19) rfl rfl (.idxLX h21 enc_I sl23 rfl rfl rfl) ?_
                refine RunT.gt0 (x := .v (.int .i64 y20)) rfl rfl rfl (bo g19) rfl rfl (.loadR ty3 rfl rfl) ?_
                refine RunT.gt0 (x := .v (.bool (decide (y20 = 2)))) rfl rfl rfl (bo g19) rfl rfl (.bin rfl rfl (fun w => b_eql w) rfl) ?_
                refine RunT.ot0 (x := .v (.bool (decide (y20 = 2)))) rfl rfl rfl rfl (.pickT (bo g19) rfl) ?_
                refine RunT.ot0 (x := .v (.bool (decide (y20 = 2)))) rfl rfl rfl rfl (.moveX rfl) ?_
                refine RunT.cases (t := 64) (c := decide (y20 = 2)) rfl (fun g22 => ?_) (fun g22 => ?_)
                · replace H := ct H g22
                  refine RunT.gt0 (x := .agg [.own 0 0 (([Seat.mk 0 0 0 0, Seat.mk 0 10 0 2, Seat.mk 0 20 0 1, Seat.mk 0 30 0 0, Seat.mk 0 40 0 0, Seat.mk 0 50 0 0]).length), .v (.int .i64 10), .v (.int .i64 15), .v (.slice none 0 0), .v (.slice none 0 0)]) rfl rfl rfl (bo g22) rfl rfl (.loadP ty26 rfl rfl rfl) ?_
                  refine RunT.gt0 (x := .agg [.v (.int .i64 1), .v (.int .i64 0)]) rfl rfl rfl (bo g22) rfl rfl (.loadP ty66 rfl rfl rfl) ?_
                  obtain ⟨r23, h24, H⟩ := bs H
                  refine RunT.gt0 (x := .lst (List.map eI r23)) rfl rfl rfl (bo g22) rfl rfl (.callp (PC.frozen (place_All_pc false k (Venue.mk [Seat.mk 0 0 0 0, Seat.mk 0 10 0 2, Seat.mk 0 20 0 1, Seat.mk 0 30 0 0, Seat.mk 0 40 0 0, Seat.mk 0 50 0 0] 10 15 [] []) (Party.mk 1 0) r23 h24)) rfl ⟨(.agg' ⟨(.all rfl (List.length_map _).symm), .v, .v, .nil, .nil, trivial⟩), (.agg' ⟨.v, .v, trivial⟩), trivial⟩ rfl rfl rfl) ?_
                  refine RunT.gt1 (x := .own 72 0 (([0, 3, 4, 5]).length)) (p0 := (72, some (.arr false 1 (List.map eI [0, 3, 4, 5])))) (n' := 80) rfl rfl rfl (bo g22) rfl rfl (.bslicem (d := false) (l := [0, 3, 4, 5]) (f := eI) sl23 rfl rfl rfl enc_I rfl) rfl ?_
                  obtain ⟨r25, h26, H⟩ := bs H
                  refine RunT.gt0 (x := .v (.bool r25)) rfl rfl rfl (bo g22) rfl rfl (.callp (ref6_SameInts_pc false k r23 [0, 3, 4, 5] r25 h26) rfl ⟨(.one .lst), (.one (.all rfl (List.length_map _).symm)), trivial⟩ rfl rfl rfl) ?_
                  refine RunT.ot0 (x := .v (.bool r25)) rfl rfl rfl rfl (.pickT (bo g22) rfl) ?_
                  refine RunT.ot0 (x := .v (.bool r25)) rfl rfl rfl rfl (.moveX rfl) ?_
                  refine RunT.cases (t := 71) (c := r25) rfl (fun g27 => ?_) (fun g27 => ?_)
                  · replace H := ct H g27
                    refine RunT.gt0 (x := .agg [.own 0 0 (([Seat.mk 0 0 0 0, Seat.mk 0 10 0 2, Seat.mk 0 20 0 1, Seat.mk 0 30 0 0, Seat.mk 0 40 0 0, Seat.mk 0 50 0 0]).length), .v (.int .i64 10), .v (.int .i64 15), .v (.slice none 0 0), .v (.slice none 0 0)]) rfl rfl rfl (bo g27) rfl rfl (.loadP ty26 rfl rfl rfl) ?_
                    refine RunT.gt0 (x := .agg [.v (.int .i64 2), .v (.int .i64 0)]) rfl rfl rfl (bo g27) rfl rfl (.loadP ty66 rfl rfl rfl) ?_
                    obtain ⟨r28, h29, H⟩ := bs H
                    refine RunT.gt0 (x := .lst (List.map eI r28)) rfl rfl rfl (bo g27) rfl rfl (.callp (PC.frozen (place_All_pc false k (Venue.mk [Seat.mk 0 0 0 0, Seat.mk 0 10 0 2, Seat.mk 0 20 0 1, Seat.mk 0 30 0 0, Seat.mk 0 40 0 0, Seat.mk 0 50 0 0] 10 15 [] []) (Party.mk 2 0) r28 h29)) rfl ⟨(.agg' ⟨(.all rfl (List.length_map _).symm), .v, .v, .nil, .nil, trivial⟩), (.agg' ⟨.v, .v, trivial⟩), trivial⟩ rfl rfl rfl) ?_
                    refine RunT.gt1 (x := .own 80 0 (([3, 4]).length)) (p0 := (80, some (.arr false 1 (List.map eI [3, 4])))) (n' := 88) rfl rfl rfl (bo g27) rfl rfl (.bslicem (d := false) (l := [3, 4]) (f := eI) sl23 rfl rfl rfl enc_I rfl) rfl ?_
                    obtain ⟨r30, h31, H⟩ := bs H
                    refine RunT.gt0 (x := .v (.bool r30)) rfl rfl rfl (bo g27) rfl rfl (.callp (ref6_SameInts_pc false k r28 [3, 4] r30 h31) rfl ⟨(.one .lst), (.one (.all rfl (List.length_map _).symm)), trivial⟩ rfl rfl rfl) ?_
                    refine RunT.ot0 (x := .v (.bool r30)) rfl rfl rfl rfl (.pickT (bo g27) rfl) ?_
                    refine RunT.ot0 (x := .v (.bool r30)) rfl rfl rfl rfl (.moveX rfl) ?_
                    refine RunT.cases (t := 78) (c := r30) rfl (fun g32 => ?_) (fun g32 => ?_)
                    · replace H := ct H g32
                      refine RunT.gt0 (x := .agg [.own 0 0 (([Seat.mk 0 0 0 0, Seat.mk 0 10 0 2, Seat.mk 0 20 0 1, Seat.mk 0 30 0 0, Seat.mk 0 40 0 0, Seat.mk 0 50 0 0]).length), .v (.int .i64 10), .v (.int .i64 15), .v (.slice none 0 0), .v (.slice none 0 0)]) rfl rfl rfl (bo g32) rfl rfl (.loadP ty26 rfl rfl rfl) ?_
                      refine RunT.gt0 (x := .agg [.v (.int .i64 2), .v (.int .i64 1)]) rfl rfl rfl (bo g32) rfl rfl (.loadP ty66 rfl rfl rfl) ?_
                      obtain ⟨r33, h34, H⟩ := bs H
                      refine RunT.gt0 (x := .lst (List.map eI r33)) rfl rfl rfl (bo g32) rfl rfl (.callp (PC.frozen (place_All_pc false k (Venue.mk [Seat.mk 0 0 0 0, Seat.mk 0 10 0 2, Seat.mk 0 20 0 1, Seat.mk 0 30 0 0, Seat.mk 0 40 0 0, Seat.mk 0 50 0 0] 10 15 [] []) (Party.mk 2 1) r33 h34)) rfl ⟨(.agg' ⟨(.all rfl (List.length_map _).symm), .v, .v, .nil, .nil, trivial⟩), (.agg' ⟨.v, .v, trivial⟩), trivial⟩ rfl rfl rfl) ?_
                      refine RunT.gt1 (x := .own 88 0 (([1]).length)) (p0 := (88, some (.arr false 1 (List.map eI [1])))) (n' := 96) rfl rfl rfl (bo g32) rfl rfl (.bslicem (d := false) (l := [1]) (f := eI) sl23 rfl rfl rfl enc_I rfl) rfl ?_
                      obtain ⟨r35, h36, H⟩ := bs H
                      refine RunT.gt0 (x := .v (.bool r35)) rfl rfl rfl (bo g32) rfl rfl (.callp (ref6_SameInts_pc false k r33 [1] r35 h36) rfl ⟨(.one .lst), (.one (.all rfl (List.length_map _).symm)), trivial⟩ rfl rfl rfl) ?_
                      refine RunT.ot0 (x := .v (.bool r35)) rfl rfl rfl rfl (.pickT (bo g32) rfl) ?_
                      refine RunT.ot0 (x := .v (.bool r35)) rfl rfl rfl rfl (.moveX rfl) ?_
                      refine RunT.cases (t := 85) (c := r35) rfl (fun g37 => ?_) (fun g37 => ?_)
                      · replace H := ct H g37
                        refine RunT.gt0 (x := .agg [.own 0 0 (([Seat.mk 0 0 0 0, Seat.mk 0 10 0 2, Seat.mk 0 20 0 1, Seat.mk 0 30 0 0, Seat.mk 0 40 0 0, Seat.mk 0 50 0 0]).length), .v (.int .i64 10), .v (.int .i64 15), .v (.slice none 0 0), .v (.slice none 0 0)]) rfl rfl rfl (bo g37) rfl rfl (.loadP ty26 rfl rfl rfl) ?_
                        refine RunT.gt0 (x := .agg [.v (.int .i64 1), .v (.int .i64 0)]) rfl rfl rfl (bo g37) rfl rfl (.loadP ty66 rfl rfl rfl) ?_
                        refine RunT.gt0 (x := .agg [.v (.int .i64 1), .v (.int .i64 0)]) rfl rfl rfl (bo g37) rfl rfl (.loadP ty66 rfl rfl rfl) ?_
                        obtain ⟨r38, h39, H⟩ := bs H
                        refine RunT.gt0 (x := .v (.bool r38)) rfl rfl rfl (bo g37) rfl rfl (.callp (place_Apart_pc false k (Venue.mk [Seat.mk 0 0 0 0, Seat.mk 0 10 0 2, Seat.mk 0 20 0 1, Seat.mk 0 30 0 0, Seat.mk 0 40 0 0, Seat.mk 0 50 0 0] 10 15 [] []) (Party.mk 1 0) 0 (Party.mk 1 0) 3 r38 h39) rfl ⟨(.agg' ⟨(.all rfl (List.length_map _).symm), .v, .v, .nil, .nil, trivial⟩), (.agg' ⟨.v, .v, trivial⟩), (.one .v), (.agg' ⟨.v, .v, trivial⟩), (.one .v), trivial⟩ rfl rfl rfl) ?_
                        refine RunT.ot0 (x := .v (.bool r38)) rfl rfl rfl rfl (.pickT (bo g37) rfl) ?_
                        refine RunT.ot0 (x := .v (.bool r38)) rfl rfl rfl rfl (.moveX rfl) ?_
                        refine RunT.cases (t := 91) (c := r38) rfl (fun g40 => ?_) (fun g40 => ?_)
                        · replace H := ct H g40
                          refine RunT.gt0 (x := .agg [.own 0 0 (([Seat.mk 0 0 0 0, Seat.mk 0 10 0 2, Seat.mk 0 20 0 1, Seat.mk 0 30 0 0, Seat.mk 0 40 0 0, Seat.mk 0 50 0 0]).length), .v (.int .i64 10), .v (.int .i64 15), .v (.slice none 0 0), .v (.slice none 0 0)]) rfl rfl rfl (bo g40) rfl rfl (.loadP ty26 rfl rfl rfl) ?_
                          refine RunT.gt0 (x := .agg [.v (.int .i64 1), .v (.int .i64 0)]) rfl rfl rfl (bo g40) rfl rfl (.loadP ty66 rfl rfl rfl) ?_
                          refine RunT.gt0 (x := .agg [.v (.int .i64 1), .v (.int .i64 0)]) rfl rfl rfl (bo g40) rfl rfl (.loadP ty66 rfl rfl rfl) ?_
                          obtain ⟨r41, h42, H⟩ := bs H
                          refine RunT.gt0 (x := .v (.bool r41)) rfl rfl rfl (bo g40) rfl rfl (.callp (place_Apart_pc false k (Venue.mk [Seat.mk 0 0 0 0, Seat.mk 0 10 0 2, Seat.mk 0 20 0 1, Seat.mk 0 30 0 0, Seat.mk 0 40 0 0, Seat.mk 0 50 0 0] 10 15 [] []) (Party.mk 1 0) 3 (Party.mk 1 0) 4 r41 h42) rfl ⟨(.agg' ⟨(.all rfl (List.length_map _).symm), .v, .v, .nil, .nil, trivial⟩), (.agg' ⟨.v, .v, trivial⟩), (.one .v), (.agg' ⟨.v, .v, trivial⟩), (.one .v), trivial⟩ rfl rfl rfl) ?_
                          refine RunT.gt0 (x := .v (.bool (!r41))) rfl rfl rfl (bo g40) rfl rfl (.un rfl (fun w => u_not w) rfl) ?_
                          refine RunT.ot0 (x := .v (.bool (!r41))) rfl rfl rfl rfl (.pickT (bo g40) rfl) ?_
                          refine RunT.ot0 (x := .v (.bool (!r41))) rfl rfl rfl rfl (.moveX rfl) ?_
                          refine RunT.cases (t := 98) (c := !r41) rfl (fun g43 => ?_) (fun g43 => ?_)
                          · replace H := ct H g43
                            refine RunT.gt0 (x := .agg [.own 0 0 (([Seat.mk 0 0 0 0, Seat.mk 0 10 0 2, Seat.mk 0 20 0 1, Seat.mk 0 30 0 0, Seat.mk 0 40 0 0, Seat.mk 0 50 0 0]).length), .v (.int .i64 10), .v (.int .i64 15), .v (.slice none 0 0), .v (.slice none 0 0)]) rfl rfl rfl (bo g43) rfl rfl (.loadP ty26 rfl rfl rfl) ?_
                            refine RunT.gt0 (x := .agg [.v (.int .i64 1), .v (.int .i64 0)]) rfl rfl rfl (bo g43) rfl rfl (.loadP ty66 rfl rfl rfl) ?_
                            refine RunT.gt0 (x := .agg [.v (.int .i64 1), .v (.int .i64 0)]) rfl rfl rfl (bo g43) rfl rfl (.loadP ty66 rfl rfl rfl) ?_
                            obtain ⟨r44, h45, H⟩ := bs H
                            refine RunT.gt0 (x := .v (.bool r44)) rfl rfl rfl (bo g43) rfl rfl (.callp (place_Apart_pc false k (Venue.mk [Seat.mk 0 0 0 0, Seat.mk 0 10 0 2, Seat.mk 0 20 0 1, Seat.mk 0 30 0 0, Seat.mk 0 40 0 0, Seat.mk 0 50 0 0] 10 15 [] []) (Party.mk 1 0) 3 (Party.mk 1 0) 5 r44 h45) rfl ⟨(.agg' ⟨(.all rfl (List.length_map _).symm), .v, .v, .nil, .nil, trivial⟩), (.agg' ⟨.v, .v, trivial⟩), (.one .v), (.agg' ⟨.v, .v, trivial⟩), (.one .v), trivial⟩ rfl rfl rfl) ?_
                            refine RunT.ot0 (x := .v (.bool r44)) rfl rfl rfl rfl (.pickT (bo g43) rfl) ?_
                            refine RunT.ot0 (x := .v (.bool r44)) rfl rfl rfl rfl (.moveX rfl) ?_
                            refine RunT.cases (t := 104) (c := r44) rfl (fun g46 => ?_) (fun g46 => ?_)
                            · replace H := ct H g46
                              refine RunT.gt0 (x := .agg [.own 0 0 (([Seat.mk 0 0 0 0, Seat.mk 0 10 0 2, Seat.mk 0 20 0 1, Seat.mk 0 30 0 0, Seat.mk 0 40 0 0, Seat.mk 0 50 0 0]).length), .v (.int .i64 10), .v (.int .i64 15), .v (.slice none 0 0), .v (.slice none 0 0)]) rfl rfl rfl (bo g46) rfl rfl (.loadP ty26 rfl rfl rfl) ?_
                              refine RunT.gt0 (x := .agg [.v (.int .i64 1), .v (.int .i64 0)]) rfl rfl rfl (bo g46) rfl rfl (.loadP ty66 rfl rfl rfl) ?_
                              refine RunT.gt0 (x := .agg [.v (.int .i64 1), .v (.int .i64 0)]) rfl rfl rfl (bo g46) rfl rfl (.loadP ty66 rfl rfl rfl) ?_
                              obtain ⟨r47, h48, H⟩ := bs H
                              refine RunT.gt0 (x := .v (.bool r47)) rfl rfl rfl (bo g46) rfl rfl (.callp (place_Apart_pc false k (Venue.mk [Seat.mk 0 0 0 0, Seat.mk 0 10 0 2, Seat.mk 0 20 0 1, Seat.mk 0 30 0 0, Seat.mk 0 40 0 0, Seat.mk 0 50 0 0] 10 15 [] []) (Party.mk 1 0) 3 (Party.mk 1 0) 3 r47 h48) rfl ⟨(.agg' ⟨(.all rfl (List.length_map _).symm), .v, .v, .nil, .nil, trivial⟩), (.agg' ⟨.v, .v, trivial⟩), (.one .v), (.agg' ⟨.v, .v, trivial⟩), (.one .v), trivial⟩ rfl rfl rfl) ?_
                              refine RunT.gt0 (x := .v (.bool (!r47))) rfl rfl rfl (bo g46) rfl rfl (.un rfl (fun w => u_not w) rfl) ?_
                              refine RunT.ot0 (x := .v (.bool (!r47))) rfl rfl rfl rfl (.pickT (bo g46) rfl) ?_
                              refine RunT.ot0 (x := .v (.bool (!r47))) rfl rfl rfl rfl (.moveX rfl) ?_
                              refine RunT.cases (t := 111) (c := !r47) rfl (fun g49 => ?_) (fun g49 => ?_)
                              · replace H := ct H g49
                                refine RunT.gt0 (x := .agg [.v (.slice none 0 0), .v (.int .i64 0), .v (.int .i64 0), .v (.slice none 0 0), .v (.slice none 0 0)]) rfl rfl rfl (bo g49) rfl rfl (.bu bu26 rfl) ?_
                                refine RunT.gt0 (x := .agg [.v (.int .i64 1), .v (.int .i64 0)]) rfl rfl rfl (bo g49) rfl rfl (.loadP ty66 rfl rfl rfl) ?_
                                obtain ⟨r50, h51, H⟩ := bs H
                                refine RunT.gt0 (x := .v (.bool r50)) rfl rfl rfl (bo g49) rfl rfl (.callp (place_May_pc false k (Venue.mk [] 0 0 [] []) (Party.mk 1 0) 0 r50 h51) rfl ⟨(.agg' ⟨.nil, .v, .v, .nil, .nil, trivial⟩), (.agg' ⟨.v, .v, trivial⟩), (.one .v), trivial⟩ rfl rfl rfl) ?_
                                refine RunT.gt0 (x := .v (.bool (!r50))) rfl rfl rfl (bo g49) rfl rfl (.un rfl (fun w => u_not w) rfl) ?_
                                refine RunT.ot0 (x := .v (.bool (!r50))) rfl rfl rfl rfl (.pickT (bo g49) rfl) ?_
                                refine RunT.ot0 (x := .v (.bool (!r50))) rfl rfl rfl rfl (.assignX rfl) ?_
                                refine RunT.nil ?_
                                obtain rfl := si H
                                refine T.sub (sub_to (st' := ⟨[(0, .v (.bool (!r50)))], [], 8, []⟩) [] (by decide) rfl rfl (⟨⟨_, rfl, .one .v⟩, trivial⟩) (trivial)) ?_
                                refine T.ret ?_
                                exact RetOk.same [.v (.bool (!r50))] ⟨rfl, trivial⟩ rfl rfl rfl
                              · replace H := cf H g49
                                refine RunT.xn rfl rfl rfl (bo g49) rfl rfl ?_
                                refine RunT.xn rfl rfl rfl (bo g49) rfl rfl ?_
                                refine RunT.xn rfl rfl rfl (bo g49) rfl rfl ?_
                                refine RunT.xn rfl rfl rfl (bo g49) rfl rfl ?_
                                refine RunT.ot0 (x := .v (.bool false)) rfl rfl rfl rfl (.pickF (bo g49) rfl) ?_
                                refine RunT.ot0 (x := .v (.bool false)) rfl rfl rfl rfl (.assignX rfl) ?_
                                refine RunT.nil ?_
                                obtain rfl := si H
                                refine T.sub (sub_to (st' := ⟨[(0, .v (.bool false))], [], 8, []⟩) [] (by decide) rfl rfl (⟨⟨_, rfl, .one .v⟩, trivial⟩) (trivial)) ?_
                                refine T.ret ?_
                                exact RetOk.same [.v (.bool false)] ⟨rfl, trivial⟩ rfl rfl rfl
                            · replace H := cf H g46
                              refine RunT.xn rfl rfl rfl (bo g46) rfl rfl ?_
                              refine RunT.xn rfl rfl rfl (bo g46) rfl rfl ?_
                              refine RunT.xn rfl rfl rfl (bo g46) rfl rfl ?_
                              refine RunT.xn rfl rfl rfl (bo g46) rfl rfl ?_
                              refine RunT.xn rfl rfl rfl (bo g46) rfl rfl ?_
                              refine RunT.ot0 (x := .v (.bool false)) rfl rfl rfl rfl (.pickF (bo g46) rfl) ?_
                              refine RunT.ot0 (x := .v (.bool false)) rfl rfl rfl rfl (.moveX rfl) ?_
                              refine RunT.xn rfl rfl rfl rfl rfl rfl ?_
                              refine RunT.xn rfl rfl rfl rfl rfl rfl ?_
                              refine RunT.xn rfl rfl rfl rfl rfl rfl ?_
                              refine RunT.xn rfl rfl rfl rfl rfl rfl ?_
                              refine RunT.ot0 (x := .v (.bool false)) rfl rfl rfl rfl (.pickF rfl rfl) ?_
                              refine RunT.ot0 (x := .v (.bool false)) rfl rfl rfl rfl (.assignX rfl) ?_
                              refine RunT.nil ?_
                              obtain rfl := si H
                              refine T.sub (sub_to (st' := ⟨[(0, .v (.bool false))], [], 8, []⟩) [] (by decide) rfl rfl (⟨⟨_, rfl, .one .v⟩, trivial⟩) (trivial)) ?_
                              refine T.ret ?_
                              exact RetOk.same [.v (.bool false)] ⟨rfl, trivial⟩ rfl rfl rfl
                          · replace H := cf H g43
                            refine RunT.xn rfl rfl rfl (bo g43) rfl rfl ?_
                            refine RunT.xn rfl rfl rfl (bo g43) rfl rfl ?_
                            refine RunT.xn rfl rfl rfl (bo g43) rfl rfl ?_
                            refine RunT.xn rfl rfl rfl (bo g43) rfl rfl ?_
                            refine RunT.ot0 (x := .v (.bool false)) rfl rfl rfl rfl (.pickF (bo g43) rfl) ?_
                            refine RunT.ot0 (x := .v (.bool false)) rfl rfl rfl rfl (.moveX rfl) ?_
                            refine RunT.xn rfl rfl rfl rfl rfl rfl ?_
                            refine RunT.xn rfl rfl rfl rfl rfl rfl ?_
                            refine RunT.xn rfl rfl rfl rfl rfl rfl ?_
                            refine RunT.xn rfl rfl rfl rfl rfl rfl ?_
                            refine RunT.xn rfl rfl rfl rfl rfl rfl ?_
                            refine RunT.ot0 (x := .v (.bool false)) rfl rfl rfl rfl (.pickF rfl rfl) ?_
                            refine RunT.ot0 (x := .v (.bool false)) rfl rfl rfl rfl (.moveX rfl) ?_
                            refine RunT.xn rfl rfl rfl rfl rfl rfl ?_
                            refine RunT.xn rfl rfl rfl rfl rfl rfl ?_
                            refine RunT.xn rfl rfl rfl rfl rfl rfl ?_
                            refine RunT.xn rfl rfl rfl rfl rfl rfl ?_
                            refine RunT.ot0 (x := .v (.bool false)) rfl rfl rfl rfl (.pickF rfl rfl) ?_
                            refine RunT.ot0 (x := .v (.bool false)) rfl rfl rfl rfl (.assignX rfl) ?_
                            refine RunT.nil ?_
                            obtain rfl := si H
                            refine T.sub (sub_to (st' := ⟨[(0, .v (.bool false))], [], 8, []⟩) [] (by decide) rfl rfl (⟨⟨_, rfl, .one .v⟩, trivial⟩) (trivial)) ?_
                            refine T.ret ?_
                            exact RetOk.same [.v (.bool false)] ⟨rfl, trivial⟩ rfl rfl rfl
                        · replace H := cf H g40
                          refine RunT.xn rfl rfl rfl (bo g40) rfl rfl ?_
                          refine RunT.xn rfl rfl rfl (bo g40) rfl rfl ?_
                          refine RunT.xn rfl rfl rfl (bo g40) rfl rfl ?_
                          refine RunT.xn rfl rfl rfl (bo g40) rfl rfl ?_
                          refine RunT.xn rfl rfl rfl (bo g40) rfl rfl ?_
                          refine RunT.ot0 (x := .v (.bool false)) rfl rfl rfl rfl (.pickF (bo g40) rfl) ?_
                          refine RunT.ot0 (x := .v (.bool false)) rfl rfl rfl rfl (.moveX rfl) ?_
                          refine RunT.xn rfl rfl rfl rfl rfl rfl ?_
                          refine RunT.xn rfl rfl rfl rfl rfl rfl ?_
                          refine RunT.xn rfl rfl rfl rfl rfl rfl ?_
                          refine RunT.xn rfl rfl rfl rfl rfl rfl ?_
                          refine RunT.ot0 (x := .v (.bool false)) rfl rfl rfl rfl (.pickF rfl rfl) ?_
                          refine RunT.ot0 (x := .v (.bool false)) rfl rfl rfl rfl (.moveX rfl) ?_
                          refine RunT.xn rfl rfl rfl rfl rfl rfl ?_
                          refine RunT.xn rfl rfl rfl rfl rfl rfl ?_
                          refine RunT.xn rfl rfl rfl rfl rfl rfl ?_
                          refine RunT.xn rfl rfl rfl rfl rfl rfl ?_
                          refine RunT.xn rfl rfl rfl rfl rfl rfl ?_
                          refine RunT.ot0 (x := .v (.bool false)) rfl rfl rfl rfl (.pickF rfl rfl) ?_
                          refine RunT.ot0 (x := .v (.bool false)) rfl rfl rfl rfl (.moveX rfl) ?_
                          refine RunT.xn rfl rfl rfl rfl rfl rfl ?_
                          refine RunT.xn rfl rfl rfl rfl rfl rfl ?_
                          refine RunT.xn rfl rfl rfl rfl rfl rfl ?_
                          refine RunT.xn rfl rfl rfl rfl rfl rfl ?_
                          refine RunT.ot0 (x := .v (.bool false)) rfl rfl rfl rfl (.pickF rfl rfl) ?_
                          refine RunT.ot0 (x := .v (.bool false)) rfl rfl rfl rfl (.assignX rfl) ?_
                          refine RunT.nil ?_
                          obtain rfl := si H
                          refine T.sub (sub_to (st' := ⟨[(0, .v (.bool false))], [], 8, []⟩) [] (by decide) rfl rfl (⟨⟨_, rfl, .one .v⟩, trivial⟩) (trivial)) ?_
                          refine T.ret ?_
                          exact RetOk.same [.v (.bool false)] ⟨rfl, trivial⟩ rfl rfl rfl
                      · replace H := cf H g37
                        refine RunT.xn rfl rfl rfl (bo g37) rfl rfl ?_
                        refine RunT.xn rfl rfl rfl (bo g37) rfl rfl ?_
                        refine RunT.xn rfl rfl rfl (bo g37) rfl rfl ?_
                        refine RunT.xn rfl rfl rfl (bo g37) rfl rfl ?_
                        refine RunT.ot0 (x := .v (.bool false)) rfl rfl rfl rfl (.pickF (bo g37) rfl) ?_
                        refine RunT.ot0 (x := .v (.bool false)) rfl rfl rfl rfl (.moveX rfl) ?_
                        refine RunT.xn rfl rfl rfl rfl rfl rfl ?_
                        refine RunT.xn rfl rfl rfl rfl rfl rfl ?_
                        refine RunT.xn rfl rfl rfl rfl rfl rfl ?_
                        refine RunT.xn rfl rfl rfl rfl rfl rfl ?_
                        refine RunT.xn rfl rfl rfl rfl rfl rfl ?_
                        refine RunT.ot0 (x := .v (.bool false)) rfl rfl rfl rfl (.pickF rfl rfl) ?_
                        refine RunT.ot0 (x := .v (.bool false)) rfl rfl rfl rfl (.moveX rfl) ?_
                        refine RunT.xn rfl rfl rfl rfl rfl rfl ?_
                        refine RunT.xn rfl rfl rfl rfl rfl rfl ?_
                        refine RunT.xn rfl rfl rfl rfl rfl rfl ?_
                        refine RunT.xn rfl rfl rfl rfl rfl rfl ?_
                        refine RunT.ot0 (x := .v (.bool false)) rfl rfl rfl rfl (.pickF rfl rfl) ?_
                        refine RunT.ot0 (x := .v (.bool false)) rfl rfl rfl rfl (.moveX rfl) ?_
                        refine RunT.xn rfl rfl rfl rfl rfl rfl ?_
                        refine RunT.xn rfl rfl rfl rfl rfl rfl ?_
                        refine RunT.xn rfl rfl rfl rfl rfl rfl ?_
                        refine RunT.xn rfl rfl rfl rfl rfl rfl ?_
                        refine RunT.xn rfl rfl rfl rfl rfl rfl ?_
                        refine RunT.ot0 (x := .v (.bool false)) rfl rfl rfl rfl (.pickF rfl rfl) ?_
                        refine RunT.ot0 (x := .v (.bool false)) rfl rfl rfl rfl (.moveX rfl) ?_
                        refine RunT.xn rfl rfl rfl rfl rfl rfl ?_
                        refine RunT.xn rfl rfl rfl rfl rfl rfl ?_
                        refine RunT.xn rfl rfl rfl rfl rfl rfl ?_
                        refine RunT.xn rfl rfl rfl rfl rfl rfl ?_
                        refine RunT.ot0 (x := .v (.bool false)) rfl rfl rfl rfl (.pickF rfl rfl) ?_
                        refine RunT.ot0 (x := .v (.bool false)) rfl rfl rfl rfl (.assignX rfl) ?_
                        refine RunT.nil ?_
                        obtain rfl := si H
                        refine T.sub (sub_to (st' := ⟨[(0, .v (.bool false))], [], 8, []⟩) [] (by decide) rfl rfl (⟨⟨_, rfl, .one .v⟩, trivial⟩) (trivial)) ?_
                        refine T.ret ?_
                        exact RetOk.same [.v (.bool false)] ⟨rfl, trivial⟩ rfl rfl rfl
                    · replace H := cf H g32
                      refine RunT.xn rfl rfl rfl (bo g32) rfl rfl ?_
                      refine RunT.xn rfl rfl rfl (bo g32) rfl rfl ?_
                      refine RunT.xn rfl rfl rfl (bo g32) rfl rfl ?_
                      refine RunT.xn rfl rfl rfl (bo g32) rfl rfl ?_
                      refine RunT.xn rfl rfl rfl (bo g32) rfl rfl ?_
                      refine RunT.ot0 (x := .v (.bool false)) rfl rfl rfl rfl (.pickF (bo g32) rfl) ?_
                      refine RunT.ot0 (x := .v (.bool false)) rfl rfl rfl rfl (.moveX rfl) ?_
                      refine RunT.xn rfl rfl rfl rfl rfl rfl ?_
                      refine RunT.xn rfl rfl rfl rfl rfl rfl ?_
                      refine RunT.xn rfl rfl rfl rfl rfl rfl ?_
                      refine RunT.xn rfl rfl rfl rfl rfl rfl ?_
                      refine RunT.ot0 (x := .v (.bool false)) rfl rfl rfl rfl (.pickF rfl rfl) ?_
                      refine RunT.ot0 (x := .v (.bool false)) rfl rfl rfl rfl (.moveX rfl) ?_
                      refine RunT.xn rfl rfl rfl rfl rfl rfl ?_
                      refine RunT.xn rfl rfl rfl rfl rfl rfl ?_
                      refine RunT.xn rfl rfl rfl rfl rfl rfl ?_
                      refine RunT.xn rfl rfl rfl rfl rfl rfl ?_
                      refine RunT.xn rfl rfl rfl rfl rfl rfl ?_
                      refine RunT.ot0 (x := .v (.bool false)) rfl rfl rfl rfl (.pickF rfl rfl) ?_
                      refine RunT.ot0 (x := .v (.bool false)) rfl rfl rfl rfl (.moveX rfl) ?_
                      refine RunT.xn rfl rfl rfl rfl rfl rfl ?_
                      refine RunT.xn rfl rfl rfl rfl rfl rfl ?_
                      refine RunT.xn rfl rfl rfl rfl rfl rfl ?_
                      refine RunT.xn rfl rfl rfl rfl rfl rfl ?_
                      refine RunT.ot0 (x := .v (.bool false)) rfl rfl rfl rfl (.pickF rfl rfl) ?_
                      refine RunT.ot0 (x := .v (.bool false)) rfl rfl rfl rfl (.moveX rfl) ?_
                      refine RunT.xn rfl rfl rfl rfl rfl rfl ?_
                      refine RunT.xn rfl rfl rfl rfl rfl rfl ?_
                      refine RunT.xn rfl rfl rfl rfl rfl rfl ?_
                      refine RunT.xn rfl rfl rfl rfl rfl rfl ?_
                      refine RunT.xn rfl rfl rfl rfl rfl rfl ?_
                      refine RunT.ot0 (x := .v (.bool false)) rfl rfl rfl rfl (.pickF rfl rfl) ?_
                      refine RunT.ot0 (x := .v (.bool false)) rfl rfl rfl rfl (.moveX rfl) ?_
                      refine RunT.xn rfl rfl rfl rfl rfl rfl ?_
                      refine RunT.xn rfl rfl rfl rfl rfl rfl ?_
                      refine RunT.xn rfl rfl rfl rfl rfl rfl ?_
                      refine RunT.xn rfl rfl rfl rfl rfl rfl ?_
                      refine RunT.ot0 (x := .v (.bool false)) rfl rfl rfl rfl (.pickF rfl rfl) ?_
                      refine RunT.ot0 (x := .v (.bool false)) rfl rfl rfl rfl (.assignX rfl) ?_
                      refine RunT.nil ?_
                      obtain rfl := si H
                      refine T.sub (sub_to (st' := ⟨[(0, .v (.bool false))], [], 8, []⟩) [] (by decide) rfl rfl (⟨⟨_, rfl, .one .v⟩, trivial⟩) (trivial)) ?_
                      refine T.ret ?_
                      exact RetOk.same [.v (.bool false)] ⟨rfl, trivial⟩ rfl rfl rfl
                  · replace H := cf H g27
                    refine RunT.xn rfl rfl rfl (bo g27) rfl rfl ?_
                    refine RunT.xn rfl rfl rfl (bo g27) rfl rfl ?_
                    refine RunT.xn rfl rfl rfl (bo g27) rfl rfl ?_
                    refine RunT.xn rfl rfl rfl (bo g27) rfl rfl ?_
                    refine RunT.xn rfl rfl rfl (bo g27) rfl rfl ?_
                    refine RunT.ot0 (x := .v (.bool false)) rfl rfl rfl rfl (.pickF (bo g27) rfl) ?_
                    refine RunT.ot0 (x := .v (.bool false)) rfl rfl rfl rfl (.moveX rfl) ?_
                    refine RunT.xn rfl rfl rfl rfl rfl rfl ?_
                    refine RunT.xn rfl rfl rfl rfl rfl rfl ?_
                    refine RunT.xn rfl rfl rfl rfl rfl rfl ?_
                    refine RunT.xn rfl rfl rfl rfl rfl rfl ?_
                    refine RunT.xn rfl rfl rfl rfl rfl rfl ?_
                    refine RunT.ot0 (x := .v (.bool false)) rfl rfl rfl rfl (.pickF rfl rfl) ?_
                    refine RunT.ot0 (x := .v (.bool false)) rfl rfl rfl rfl (.moveX rfl) ?_
                    refine RunT.xn rfl rfl rfl rfl rfl rfl ?_
                    refine RunT.xn rfl rfl rfl rfl rfl rfl ?_
                    refine RunT.xn rfl rfl rfl rfl rfl rfl ?_
                    refine RunT.xn rfl rfl rfl rfl rfl rfl ?_
                    refine RunT.ot0 (x := .v (.bool false)) rfl rfl rfl rfl (.pickF rfl rfl) ?_
                    refine RunT.ot0 (x := .v (.bool false)) rfl rfl rfl rfl (.moveX rfl) ?_
                    refine RunT.xn rfl rfl rfl rfl rfl rfl ?_
                    refine RunT.xn rfl rfl rfl rfl rfl rfl ?_
                    refine RunT.xn rfl rfl rfl rfl rfl rfl ?_
                    refine RunT.xn rfl rfl rfl rfl rfl rfl ?_
                    refine RunT.xn rfl rfl rfl rfl rfl rfl ?_
                    refine RunT.ot0 (x := .v (.bool false)) rfl rfl rfl rfl (.pickF rfl rfl) ?_
                    refine RunT.ot0 (x := .v (.bool false)) rfl rfl rfl rfl (.moveX rfl) ?_
                    refine RunT.xn rfl rfl rfl rfl rfl rfl ?_
                    refine RunT.xn rfl rfl rfl rfl rfl rfl ?_
                    refine RunT.xn rfl rfl rfl rfl rfl rfl ?_
                    refine RunT.xn rfl rfl rfl rfl rfl rfl ?_
                    refine RunT.ot0 (x := .v (.bool false)) rfl rfl rfl rfl (.pickF rfl rfl) ?_
                    refine RunT.ot0 (x := .v (.bool false)) rfl rfl rfl rfl (.moveX rfl) ?_
                    refine RunT.xn rfl rfl rfl rfl rfl rfl ?_
                    refine RunT.xn rfl rfl rfl rfl rfl rfl ?_
                    refine RunT.xn rfl rfl rfl rfl rfl rfl ?_
                    refine RunT.xn rfl rfl rfl rfl rfl rfl ?_
                    refine RunT.xn rfl rfl rfl rfl rfl rfl ?_
                    refine RunT.ot0 (x := .v (.bool false)) rfl rfl rfl rfl (.pickF rfl rfl) ?_
                    refine RunT.ot0 (x := .v (.bool false)) rfl rfl rfl rfl (.moveX rfl) ?_
                    refine RunT.xn rfl rfl rfl rfl rfl rfl ?_
                    refine RunT.xn rfl rfl rfl rfl rfl rfl ?_
                    refine RunT.xn rfl rfl rfl rfl rfl rfl ?_
                    refine RunT.xn rfl rfl rfl rfl rfl rfl ?_
                    refine RunT.ot0 (x := .v (.bool false)) rfl rfl rfl rfl (.pickF rfl rfl) ?_
                    refine RunT.ot0 (x := .v (.bool false)) rfl rfl rfl rfl (.assignX rfl) ?_
                    refine RunT.nil ?_
                    obtain rfl := si H
                    refine T.sub (sub_to (st' := ⟨[(0, .v (.bool false))], [], 8, []⟩) [] (by decide) rfl rfl (⟨⟨_, rfl, .one .v⟩, trivial⟩) (trivial)) ?_
                    refine T.ret ?_
                    exact RetOk.same [.v (.bool false)] ⟨rfl, trivial⟩ rfl rfl rfl
                · replace H := cf H g22
                  refine RunT.xn rfl rfl rfl (bo g22) rfl rfl ?_
                  refine RunT.xn rfl rfl rfl (bo g22) rfl rfl ?_
                  refine RunT.xn rfl rfl rfl (bo g22) rfl rfl ?_
                  refine RunT.xn rfl rfl rfl (bo g22) rfl rfl ?_
                  refine RunT.xn rfl rfl rfl (bo g22) rfl rfl ?_
                  refine RunT.ot0 (x := .v (.bool false)) rfl rfl rfl rfl (.pickF (bo g22) rfl) ?_
                  refine RunT.ot0 (x := .v (.bool false)) rfl rfl rfl rfl (.moveX rfl) ?_
                  refine RunT.xn rfl rfl rfl rfl rfl rfl ?_
                  refine RunT.xn rfl rfl rfl rfl rfl rfl ?_
                  refine RunT.xn rfl rfl rfl rfl rfl rfl ?_
                  refine RunT.xn rfl rfl rfl rfl rfl rfl ?_
                  refine RunT.xn rfl rfl rfl rfl rfl rfl ?_
                  refine RunT.ot0 (x := .v (.bool false)) rfl rfl rfl rfl (.pickF rfl rfl) ?_
                  refine RunT.ot0 (x := .v (.bool false)) rfl rfl rfl rfl (.moveX rfl) ?_
                  refine RunT.xn rfl rfl rfl rfl rfl rfl ?_
                  refine RunT.xn rfl rfl rfl rfl rfl rfl ?_
                  refine RunT.xn rfl rfl rfl rfl rfl rfl ?_
                  refine RunT.xn rfl rfl rfl rfl rfl rfl ?_
                  refine RunT.xn rfl rfl rfl rfl rfl rfl ?_
                  refine RunT.ot0 (x := .v (.bool false)) rfl rfl rfl rfl (.pickF rfl rfl) ?_
                  refine RunT.ot0 (x := .v (.bool false)) rfl rfl rfl rfl (.moveX rfl) ?_
                  refine RunT.xn rfl rfl rfl rfl rfl rfl ?_
                  refine RunT.xn rfl rfl rfl rfl rfl rfl ?_
                  refine RunT.xn rfl rfl rfl rfl rfl rfl ?_
                  refine RunT.xn rfl rfl rfl rfl rfl rfl ?_
                  refine RunT.ot0 (x := .v (.bool false)) rfl rfl rfl rfl (.pickF rfl rfl) ?_
                  refine RunT.ot0 (x := .v (.bool false)) rfl rfl rfl rfl (.moveX rfl) ?_
                  refine RunT.xn rfl rfl rfl rfl rfl rfl ?_
                  refine RunT.xn rfl rfl rfl rfl rfl rfl ?_
                  refine RunT.xn rfl rfl rfl rfl rfl rfl ?_
                  refine RunT.xn rfl rfl rfl rfl rfl rfl ?_
                  refine RunT.xn rfl rfl rfl rfl rfl rfl ?_
                  refine RunT.ot0 (x := .v (.bool false)) rfl rfl rfl rfl (.pickF rfl rfl) ?_
                  refine RunT.ot0 (x := .v (.bool false)) rfl rfl rfl rfl (.moveX rfl) ?_
                  refine RunT.xn rfl rfl rfl rfl rfl rfl ?_
                  refine RunT.xn rfl rfl rfl rfl rfl rfl ?_
                  refine RunT.xn rfl rfl rfl rfl rfl rfl ?_
                  refine RunT.xn rfl rfl rfl rfl rfl rfl ?_
                  refine RunT.ot0 (x := .v (.bool false)) rfl rfl rfl rfl (.pickF rfl rfl) ?_
                  refine RunT.ot0 (x := .v (.bool false)) rfl rfl rfl rfl (.moveX rfl) ?_
                  refine RunT.xn rfl rfl rfl rfl rfl rfl ?_
                  refine RunT.xn rfl rfl rfl rfl rfl rfl ?_
                  refine RunT.xn rfl rfl rfl rfl rfl rfl ?_
                  refine RunT.xn rfl rfl rfl rfl rfl rfl ?_
                  refine RunT.xn rfl rfl rfl rfl rfl rfl ?_
                  refine RunT.ot0 (x := .v (.bool false)) rfl rfl rfl rfl (.pickF rfl rfl) ?_
                  refine RunT.ot0 (x := .v (.bool false)) rfl rfl rfl rfl (.moveX rfl) ?_
                  refine RunT.xn rfl rfl rfl rfl rfl rfl ?_
                  refine RunT.xn rfl rfl rfl rfl rfl rfl ?_
                  refine RunT.xn rfl rfl rfl rfl rfl rfl ?_
                  refine RunT.xn rfl rfl rfl rfl rfl rfl ?_
                  refine RunT.ot0 (x := .v (.bool false)) rfl rfl rfl rfl (.pickF rfl rfl) ?_
                  refine RunT.ot0 (x := .v (.bool false)) rfl rfl rfl rfl (.assignX rfl) ?_
                  refine RunT.nil ?_
                  obtain rfl := si H
                  refine T.sub (sub_to (st' := ⟨[(0, .v (.bool false))], [], 8, []⟩) [] (by decide) rfl rfl (⟨⟨_, rfl, .one .v⟩, trivial⟩) (trivial)) ?_
                  refine T.ret ?_
                  exact RetOk.same [.v (.bool false)] ⟨rfl, trivial⟩ rfl rfl rfl
              · replace H := cf H g19
                refine RunT.xn rfl rfl rfl (bo g19) rfl rfl ?_
                refine RunT.xn rfl rfl rfl (bo g19) rfl rfl ?_
                refine RunT.xn rfl rfl rfl (bo g19) rfl rfl ?_
                refine RunT.xn rfl rfl rfl (bo g19) rfl rfl ?_
                refine RunT.ot0 (x := .v (.bool false)) rfl rfl rfl rfl (.pickF (bo g19) rfl) ?_
                refine RunT.ot0 (x := .v (.bool false)) rfl rfl rfl rfl (.moveX rfl) ?_
                refine RunT.xn rfl rfl rfl rfl rfl rfl ?_
                refine RunT.xn rfl rfl rfl rfl rfl rfl ?_
                refine RunT.xn rfl rfl rfl rfl rfl rfl ?_
                refine RunT.xn rfl rfl rfl rfl rfl rfl ?_
                refine RunT.xn rfl rfl rfl rfl rfl rfl ?_
                refine RunT.ot0 (x := .v (.bool false)) rfl rfl rfl rfl (.pickF rfl rfl) ?_
                refine RunT.ot0 (x := .v (.bool false)) rfl rfl rfl rfl (.moveX rfl) ?_
                refine RunT.xn rfl rfl rfl rfl rfl rfl ?_
                refine RunT.xn rfl rfl rfl rfl rfl rfl ?_
                refine RunT.xn rfl rfl rfl rfl rfl rfl ?_
                refine RunT.xn rfl rfl rfl rfl rfl rfl ?_
                refine RunT.xn rfl rfl rfl rfl rfl rfl ?_
                refine RunT.ot0 (x := .v (.bool false)) rfl rfl rfl rfl (.pickF rfl rfl) ?_
                refine RunT.ot0 (x := .v (.bool false)) rfl rfl rfl rfl (.moveX rfl) ?_
                refine RunT.xn rfl rfl rfl rfl rfl rfl ?_
                refine RunT.xn rfl rfl rfl rfl rfl rfl ?_
                refine RunT.xn rfl rfl rfl rfl rfl rfl ?_
                refine RunT.xn rfl rfl rfl rfl rfl rfl ?_
                refine RunT.xn rfl rfl rfl rfl rfl rfl ?_
                refine RunT.ot0 (x := .v (.bool false)) rfl rfl rfl rfl (.pickF rfl rfl) ?_
                refine RunT.ot0 (x := .v (.bool false)) rfl rfl rfl rfl (.moveX rfl) ?_
                refine RunT.xn rfl rfl rfl rfl rfl rfl ?_
                refine RunT.xn rfl rfl rfl rfl rfl rfl ?_
                refine RunT.xn rfl rfl rfl rfl rfl rfl ?_
                refine RunT.xn rfl rfl rfl rfl rfl rfl ?_
                refine RunT.ot0 (x := .v (.bool false)) rfl rfl rfl rfl (.pickF rfl rfl) ?_
                refine RunT.ot0 (x := .v (.bool false)) rfl rfl rfl rfl (.moveX rfl) ?_
                refine RunT.xn rfl rfl rfl rfl rfl rfl ?_
                refine RunT.xn rfl rfl rfl rfl rfl rfl ?_
                refine RunT.xn rfl rfl rfl rfl rfl rfl ?_
                refine RunT.xn rfl rfl rfl rfl rfl rfl ?_
                refine RunT.xn rfl rfl rfl rfl rfl rfl ?_
                refine RunT.ot0 (x := .v (.bool false)) rfl rfl rfl rfl (.pickF rfl rfl) ?_
                refine RunT.ot0 (x := .v (.bool false)) rfl rfl rfl rfl (.moveX rfl) ?_
                refine RunT.xn rfl rfl rfl rfl rfl rfl ?_
                refine RunT.xn rfl rfl rfl rfl rfl rfl ?_
                refine RunT.xn rfl rfl rfl rfl rfl rfl ?_
                refine RunT.xn rfl rfl rfl rfl rfl rfl ?_
                refine RunT.ot0 (x := .v (.bool false)) rfl rfl rfl rfl (.pickF rfl rfl) ?_
                refine RunT.ot0 (x := .v (.bool false)) rfl rfl rfl rfl (.moveX rfl) ?_
                refine RunT.xn rfl rfl rfl rfl rfl rfl ?_
                refine RunT.xn rfl rfl rfl rfl rfl rfl ?_
                refine RunT.xn rfl rfl rfl rfl rfl rfl ?_
                refine RunT.xn rfl rfl rfl rfl rfl rfl ?_
                refine RunT.xn rfl rfl rfl rfl rfl rfl ?_
                refine RunT.ot0 (x := .v (.bool false)) rfl rfl rfl rfl (.pickF rfl rfl) ?_
                refine RunT.ot0 (x := .v (.bool false)) rfl rfl rfl rfl (.moveX rfl) ?_
                refine RunT.xn rfl rfl rfl rfl rfl rfl ?_
                refine RunT.xn rfl rfl rfl rfl rfl rfl ?_
                refine RunT.xn rfl rfl rfl rfl rfl rfl ?_
                refine RunT.xn rfl rfl rfl rfl rfl rfl ?_
                refine RunT.ot0 (x := .v (.bool false)) rfl rfl rfl rfl (.pickF rfl rfl) ?_
                refine RunT.ot0 (x := .v (.bool false)) rfl rfl rfl rfl (.assignX rfl) ?_
                refine RunT.nil ?_
                obtain rfl := si H
                refine T.sub (sub_to (st' := ⟨[(0, .v (.bool false))], [], 8, []⟩) [] (by decide) rfl rfl (⟨⟨_, rfl, .one .v⟩, trivial⟩) (trivial)) ?_
                refine T.ret ?_
                exact RetOk.same [.v (.bool false)] ⟨rfl, trivial⟩ rfl rfl rfl
            · replace H := cf H g18
              refine RunT.xn rfl rfl rfl (bo g18) rfl rfl ?_
              refine RunT.xn rfl rfl rfl (bo g18) rfl rfl ?_
              refine RunT.xn rfl rfl rfl (bo g18) rfl rfl ?_
              refine RunT.ot0 (x := .v (.bool false)) rfl rfl rfl rfl (.pickF (bo g18) rfl) ?_
              refine RunT.ot0 (x := .v (.bool false)) rfl rfl rfl rfl (.moveX rfl) ?_
              refine RunT.xn rfl rfl rfl rfl rfl rfl ?_
              refine RunT.xn rfl rfl rfl rfl rfl rfl ?_
              refine RunT.xn rfl rfl rfl rfl rfl rfl ?_
              refine RunT.xn rfl rfl rfl rfl rfl rfl ?_
              refine RunT.ot0 (x := .v (.bool false)) rfl rfl rfl rfl (.pickF rfl rfl) ?_
              refine RunT.ot0 (x := .v (.bool false)) rfl rfl rfl rfl (.moveX rfl) ?_
              refine RunT.xn rfl rfl rfl rfl rfl rfl ?_
              refine RunT.xn rfl rfl rfl rfl rfl rfl ?_
              refine RunT.xn rfl rfl rfl rfl rfl rfl ?_
              refine RunT.xn rfl rfl rfl rfl rfl rfl ?_
              refine RunT.xn rfl rfl rfl rfl rfl rfl ?_
              refine RunT.ot0 (x := .v (.bool false)) rfl rfl rfl rfl (.pickF rfl rfl) ?_
              refine RunT.ot0 (x := .v (.bool false)) rfl rfl rfl rfl (.moveX rfl) ?_
              refine RunT.xn rfl rfl rfl rfl rfl rfl ?_
              refine RunT.xn rfl rfl rfl rfl rfl rfl ?_
              refine RunT.xn rfl rfl rfl rfl rfl rfl ?_
              refine RunT.xn rfl rfl rfl rfl rfl rfl ?_
              refine RunT.xn rfl rfl rfl rfl rfl rfl ?_
              refine RunT.ot0 (x := .v (.bool false)) rfl rfl rfl rfl (.pickF rfl rfl) ?_
              refine RunT.ot0 (x := .v (.bool false)) rfl rfl rfl rfl (.moveX rfl) ?_
              refine RunT.xn rfl rfl rfl rfl rfl rfl ?_
              refine RunT.xn rfl rfl rfl rfl rfl rfl ?_
              refine RunT.xn rfl rfl rfl rfl rfl rfl ?_
              refine RunT.xn rfl rfl rfl rfl rfl rfl ?_
              refine RunT.xn rfl rfl rfl rfl rfl rfl ?_
              refine RunT.ot0 (x := .v (.bool false)) rfl rfl rfl rfl (.pickF rfl rfl) ?_
              refine RunT.ot0 (x := .v (.bool false)) rfl rfl rfl rfl (.moveX rfl) ?_
              refine RunT.xn rfl rfl rfl rfl rfl rfl ?_
              refine RunT.xn rfl rfl rfl rfl rfl rfl ?_
              refine RunT.xn rfl rfl rfl rfl rfl rfl ?_
              refine RunT.xn rfl rfl rfl rfl rfl rfl ?_
              refine RunT.ot0 (x := .v (.bool false)) rfl rfl rfl rfl (.pickF rfl rfl) ?_
              refine RunT.ot0 (x := .v (.bool false)) rfl rfl rfl rfl (.moveX rfl) ?_
              refine RunT.xn rfl rfl rfl rfl rfl rfl ?_
              refine RunT.xn rfl rfl rfl rfl rfl rfl ?_
              refine RunT.xn rfl rfl rfl rfl rfl rfl ?_
              refine RunT.xn rfl rfl rfl rfl rfl rfl ?_
              refine RunT.xn rfl rfl rfl rfl rfl rfl ?_
              refine RunT.ot0 (x := .v (.bool false)) rfl rfl rfl rfl (.pickF rfl rfl) ?_
              refine RunT.ot0 (x := .v (.bool false)) rfl rfl rfl rfl (.moveX rfl) ?_
              refine RunT.xn rfl rfl rfl rfl rfl rfl ?_
              refine RunT.xn rfl rfl rfl rfl rfl rfl ?_
              refine RunT.xn rfl rfl rfl rfl rfl rfl ?_
              refine RunT.xn rfl rfl rfl rfl rfl rfl ?_
              refine RunT.ot0 (x := .v (.bool false)) rfl rfl rfl rfl (.pickF rfl rfl) ?_
              refine RunT.ot0 (x := .v (.bool false)) rfl rfl rfl rfl (.moveX rfl) ?_
              refine RunT.xn rfl rfl rfl rfl rfl rfl ?_
              refine RunT.xn rfl rfl rfl rfl rfl rfl ?_
              refine RunT.xn rfl rfl rfl rfl rfl rfl ?_
              refine RunT.xn rfl rfl rfl rfl rfl rfl ?_
              refine RunT.xn rfl rfl rfl rfl rfl rfl ?_
              refine RunT.ot0 (x := .v (.bool false)) rfl rfl rfl rfl (.pickF rfl rfl) ?_
              refine RunT.ot0 (x := .v (.bool false)) rfl rfl rfl rfl (.moveX rfl) ?_
              refine RunT.xn rfl rfl rfl rfl rfl rfl ?_
              refine RunT.xn rfl rfl rfl rfl rfl rfl ?_
              refine RunT.xn rfl rfl rfl rfl rfl rfl ?_
              refine RunT.xn rfl rfl rfl rfl rfl rfl ?_
              refine RunT.ot0 (x := .v (.bool false)) rfl rfl rfl rfl (.pickF rfl rfl) ?_
              refine RunT.ot0 (x := .v (.bool false)) rfl rfl rfl rfl (.assignX rfl) ?_
              refine RunT.nil ?_
              obtain rfl := si H
              refine T.sub (sub_to (st' := ⟨[(0, .v (.bool false))], [], 8, []⟩) [] (by decide) rfl rfl (⟨⟨_, rfl, .one .v⟩, trivial⟩) (trivial)) ?_
              refine T.ret ?_
              exact RetOk.same [.v (.bool false)] ⟨rfl, trivial⟩ rfl rfl rfl
          · replace H := cf H g17
            refine RunT.xn rfl rfl rfl (bo g17) rfl rfl ?_
            refine RunT.ot0 (x := .v (.bool false)) rfl rfl rfl rfl (.pickF (bo g17) rfl) ?_
            refine RunT.ot0 (x := .v (.bool false)) rfl rfl rfl rfl (.moveX rfl) ?_
            refine RunT.xn rfl rfl rfl rfl rfl rfl ?_
            refine RunT.xn rfl rfl rfl rfl rfl rfl ?_
            refine RunT.xn rfl rfl rfl rfl rfl rfl ?_
            refine RunT.ot0 (x := .v (.bool false)) rfl rfl rfl rfl (.pickF rfl rfl) ?_
            refine RunT.ot0 (x := .v (.bool false)) rfl rfl rfl rfl (.moveX rfl) ?_
            refine RunT.xn rfl rfl rfl rfl rfl rfl ?_
            refine RunT.xn rfl rfl rfl rfl rfl rfl ?_
            refine RunT.xn rfl rfl rfl rfl rfl rfl ?_
            refine RunT.xn rfl rfl rfl rfl rfl rfl ?_
            refine RunT.ot0 (x := .v (.bool false)) rfl rfl rfl rfl (.pickF rfl rfl) ?_
            refine RunT.ot0 (x := .v (.bool false)) rfl rfl rfl rfl (.moveX rfl) ?_
            refine RunT.xn rfl rfl rfl rfl rfl rfl ?_
            refine RunT.xn rfl rfl rfl rfl rfl rfl ?_
            refine RunT.xn rfl rfl rfl rfl rfl rfl ?_
            refine RunT.xn rfl rfl rfl rfl rfl rfl ?_
            refine RunT.xn rfl rfl rfl rfl rfl rfl ?_
            refine RunT.ot0 (x := .v (.bool false)) rfl rfl rfl rfl (.pickF rfl rfl) ?_
            refine RunT.ot0 (x := .v (.bool false)) rfl rfl rfl rfl (.moveX rfl) ?_
            refine RunT.xn rfl rfl rfl rfl rfl rfl ?_
            refine RunT.xn rfl rfl rfl rfl rfl rfl ?_
            refine RunT.xn rfl rfl rfl rfl rfl rfl ?_
            refine RunT.xn rfl rfl rfl rfl rfl rfl ?_
            refine RunT.xn rfl rfl rfl rfl rfl rfl ?_
            refine RunT.ot0 (x := .v (.bool false)) rfl rfl rfl rfl (.pickF rfl rfl) ?_
            refine RunT.ot0 (x := .v (.bool false)) rfl rfl rfl rfl (.moveX rfl) ?_
            refine RunT.xn rfl rfl rfl rfl rfl rfl ?_
            refine RunT.xn rfl rfl rfl rfl rfl rfl ?_
            refine RunT.xn rfl rfl rfl rfl rfl rfl ?_
            refine RunT.xn rfl rfl rfl rfl rfl rfl ?_
            refine RunT.xn rfl rfl rfl rfl rfl rfl ?_
            refine RunT.ot0 (x := .v (.bool false)) rfl rfl rfl rfl (.pickF rfl rfl) ?_
            refine RunT.ot0 (x := .v (.bool false)) rfl rfl rfl rfl (.moveX rfl) ?_
            refine RunT.xn rfl rfl rfl rfl rfl rfl ?_
            refine RunT.xn rfl rfl rfl rfl rfl rfl ?_
            refine RunT.xn rfl rfl rfl rfl rfl rfl ?_
            refine RunT.xn rfl rfl rfl rfl rfl rfl ?_
            refine RunT.ot0 (x := .v (.bool false)) rfl rfl rfl rfl (.pickF rfl rfl) ?_
            refine RunT.ot0 (x := .v (.bool false)) rfl rfl rfl rfl (.moveX rfl) ?_
            refine RunT.xn rfl rfl rfl rfl rfl rfl ?_
            refine RunT.xn rfl rfl rfl rfl rfl rfl ?_
            refine RunT.xn rfl rfl rfl rfl rfl rfl ?_
            refine RunT.xn rfl rfl rfl rfl rfl rfl ?_
            refine RunT.xn rfl rfl rfl rfl rfl rfl ?_
            refine RunT.ot0 (x := .v (.bool false)) rfl rfl rfl rfl (.pickF rfl rfl) ?_
            refine RunT.ot0 (x := .v (.bool false)) rfl rfl rfl rfl (.moveX rfl) ?_
            refine RunT.xn rfl rfl rfl rfl rfl rfl ?_
            refine RunT.xn rfl rfl rfl rfl rfl rfl ?_
            refine RunT.xn rfl rfl rfl rfl rfl rfl ?_
            refine RunT.xn rfl rfl rfl rfl rfl rfl ?_
            refine RunT.ot0 (x := .v (.bool false)) rfl rfl rfl rfl (.pickF rfl rfl) ?_
            refine RunT.ot0 (x := .v (.bool false)) rfl rfl rfl rfl (.moveX rfl) ?_
            refine RunT.xn rfl rfl rfl rfl rfl rfl ?_
            refine RunT.xn rfl rfl rfl rfl rfl rfl ?_
            refine RunT.xn rfl rfl rfl rfl rfl rfl ?_
            refine RunT.xn rfl rfl rfl rfl rfl rfl ?_
            refine RunT.xn rfl rfl rfl rfl rfl rfl ?_
            refine RunT.ot0 (x := .v (.bool false)) rfl rfl rfl rfl (.pickF rfl rfl) ?_
            refine RunT.ot0 (x := .v (.bool false)) rfl rfl rfl rfl (.moveX rfl) ?_
            refine RunT.xn rfl rfl rfl rfl rfl rfl ?_
            refine RunT.xn rfl rfl rfl rfl rfl rfl ?_
            refine RunT.xn rfl rfl rfl rfl rfl rfl ?_
            refine RunT.xn rfl rfl rfl rfl rfl rfl ?_
            refine RunT.ot0 (x := .v (.bool false)) rfl rfl rfl rfl (.pickF rfl rfl) ?_
            refine RunT.ot0 (x := .v (.bool false)) rfl rfl rfl rfl (.assignX rfl) ?_
            refine RunT.nil ?_
            obtain rfl := si H
            refine T.sub (sub_to (st' := ⟨[(0, .v (.bool false))], [], 8, []⟩) [] (by decide) rfl rfl (⟨⟨_, rfl, .one .v⟩, trivial⟩) (trivial)) ?_
            refine T.ret ?_
            exact RetOk.same [.v (.bool false)] ⟨rfl, trivial⟩ rfl rfl rfl
        · replace H := cf H g14
          refine RunT.xn rfl rfl rfl (bo g14) rfl rfl ?_
          refine RunT.xn rfl rfl rfl (bo g14) rfl rfl ?_
          refine RunT.xn rfl rfl rfl (bo g14) rfl rfl ?_
          refine RunT.xn rfl rfl rfl (bo g14) rfl rfl ?_
          refine RunT.ot0 (x := .v (.bool false)) rfl rfl rfl rfl (.pickF (bo g14) rfl) ?_
          refine RunT.ot0 (x := .v (.bool false)) rfl rfl rfl rfl (.moveX rfl) ?_
          refine RunT.xn rfl rfl rfl rfl rfl rfl ?_
          refine RunT.ot0 (x := .v (.bool false)) rfl rfl rfl rfl (.pickF rfl rfl) ?_
          refine RunT.ot0 (x := .v (.bool false)) rfl rfl rfl rfl (.moveX rfl) ?_
          refine RunT.xn rfl rfl rfl rfl rfl rfl ?_
          refine RunT.xn rfl rfl rfl rfl rfl rfl ?_
          refine RunT.xn rfl rfl rfl rfl rfl rfl ?_
          refine RunT.ot0 (x := .v (.bool false)) rfl rfl rfl rfl (.pickF rfl rfl) ?_
          refine RunT.ot0 (x := .v (.bool false)) rfl rfl rfl rfl (.moveX rfl) ?_
          refine RunT.xn rfl rfl rfl rfl rfl rfl ?_
          refine RunT.xn rfl rfl rfl rfl rfl rfl ?_
          refine RunT.xn rfl rfl rfl rfl rfl rfl ?_
          refine RunT.xn rfl rfl rfl rfl rfl rfl ?_
          refine RunT.ot0 (x := .v (.bool false)) rfl rfl rfl rfl (.pickF rfl rfl) ?_
          refine RunT.ot0 (x := .v (.bool false)) rfl rfl rfl rfl (.moveX rfl) ?_
          refine RunT.xn rfl rfl rfl rfl rfl rfl ?_
          refine RunT.xn rfl rfl rfl rfl rfl rfl ?_
          refine RunT.xn rfl rfl rfl rfl rfl rfl ?_
          refine RunT.xn rfl rfl rfl rfl rfl rfl ?_
          refine RunT.xn rfl rfl rfl rfl rfl rfl ?_
          refine RunT.ot0 (x := .v (.bool false)) rfl rfl rfl rfl (.pickF rfl rfl) ?_
          refine RunT.ot0 (x := .v (.bool false)) rfl rfl rfl rfl (.moveX rfl) ?_
          refine RunT.xn rfl rfl rfl rfl rfl rfl ?_
          refine RunT.xn rfl rfl rfl rfl rfl rfl ?_
          refine RunT.xn rfl rfl rfl rfl rfl rfl ?_
          refine RunT.xn rfl rfl rfl rfl rfl rfl ?_
          refine RunT.xn rfl rfl rfl rfl rfl rfl ?_
          refine RunT.ot0 (x := .v (.bool false)) rfl rfl rfl rfl (.pickF rfl rfl) ?_
          refine RunT.ot0 (x := .v (.bool false)) rfl rfl rfl rfl (.moveX rfl) ?_
          refine RunT.xn rfl rfl rfl rfl rfl rfl ?_
          refine RunT.xn rfl rfl rfl rfl rfl rfl ?_
          refine RunT.xn rfl rfl rfl rfl rfl rfl ?_
          refine RunT.xn rfl rfl rfl rfl rfl rfl ?_
          refine RunT.xn rfl rfl rfl rfl rfl rfl ?_
          refine RunT.ot0 (x := .v (.bool false)) rfl rfl rfl rfl (.pickF rfl rfl) ?_
          refine RunT.ot0 (x := .v (.bool false)) rfl rfl rfl rfl (.moveX rfl) ?_
          refine RunT.xn rfl rfl rfl rfl rfl rfl ?_
          refine RunT.xn rfl rfl rfl rfl rfl rfl ?_
          refine RunT.xn rfl rfl rfl rfl rfl rfl ?_
          refine RunT.xn rfl rfl rfl rfl rfl rfl ?_
          refine RunT.ot0 (x := .v (.bool false)) rfl rfl rfl rfl (.pickF rfl rfl) ?_
          refine RunT.ot0 (x := .v (.bool false)) rfl rfl rfl rfl (.moveX rfl) ?_
          refine RunT.xn rfl rfl rfl rfl rfl rfl ?_
          refine RunT.xn rfl rfl rfl rfl rfl rfl ?_
          refine RunT.xn rfl rfl rfl rfl rfl rfl ?_
          refine RunT.xn rfl rfl rfl rfl rfl rfl ?_
          refine RunT.xn rfl rfl rfl rfl rfl rfl ?_
          refine RunT.ot0 (x := .v (.bool false)) rfl rfl rfl rfl (.pickF rfl rfl) ?_
          refine RunT.ot0 (x := .v (.bool false)) rfl rfl rfl rfl (.moveX rfl) ?_
          refine RunT.xn rfl rfl rfl rfl rfl rfl ?_
          refine RunT.xn rfl rfl rfl rfl rfl rfl ?_
          refine RunT.xn rfl rfl rfl rfl rfl rfl ?_
          refine RunT.xn rfl rfl rfl rfl rfl rfl ?_
          refine RunT.ot0 (x := .v (.bool false)) rfl rfl rfl rfl (.pickF rfl rfl) ?_
          refine RunT.ot0 (x := .v (.bool false)) rfl rfl rfl rfl (.moveX rfl) ?_
          refine RunT.xn rfl rfl rfl rfl rfl rfl ?_
          refine RunT.xn rfl rfl rfl rfl rfl rfl ?_
          refine RunT.xn rfl rfl rfl rfl rfl rfl ?_
          refine RunT.xn rfl rfl rfl rfl rfl rfl ?_
          refine RunT.xn rfl rfl rfl rfl rfl rfl ?_
          refine RunT.ot0 (x := .v (.bool false)) rfl rfl rfl rfl (.pickF rfl rfl) ?_
          refine RunT.ot0 (x := .v (.bool false)) rfl rfl rfl rfl (.moveX rfl) ?_
          refine RunT.xn rfl rfl rfl rfl rfl rfl ?_
          refine RunT.xn rfl rfl rfl rfl rfl rfl ?_
          refine RunT.xn rfl rfl rfl rfl rfl rfl ?_
          refine RunT.xn rfl rfl rfl rfl rfl rfl ?_
          refine RunT.ot0 (x := .v (.bool false)) rfl rfl rfl rfl (.pickF rfl rfl) ?_
          refine RunT.ot0 (x := .v (.bool false)) rfl rfl rfl rfl (.assignX rfl) ?_
          refine RunT.nil ?_
          obtain rfl := si H
          refine T.sub (sub_to (st' := ⟨[(0, .v (.bool false))], [], 8, []⟩) [] (by decide) rfl rfl (⟨⟨_, rfl, .one .v⟩, trivial⟩) (trivial)) ?_
          refine T.ret ?_
          exact RetOk.same [.v (.bool false)] ⟨rfl, trivial⟩ rfl rfl rfl
      · replace H := cf H g11
        refine RunT.xn rfl rfl rfl (bo g11) rfl rfl ?_
        refine RunT.xn rfl rfl rfl (bo g11) rfl rfl ?_
        refine RunT.xn rfl rfl rfl (bo g11) rfl rfl ?_
        refine RunT.ot0 (x := .v (.bool false)) rfl rfl rfl rfl (.pickF (bo g11) rfl) ?_
        refine RunT.ot0 (x := .v (.bool false)) rfl rfl rfl rfl (.moveX rfl) ?_
        refine RunT.xn rfl rfl rfl rfl rfl rfl ?_
        refine RunT.xn rfl rfl rfl rfl rfl rfl ?_
        refine RunT.xn rfl rfl rfl rfl rfl rfl ?_
        refine RunT.xn rfl rfl rfl rfl rfl rfl ?_
        refine RunT.ot0 (x := .v (.bool false)) rfl rfl rfl rfl (.pickF rfl rfl) ?_
        refine RunT.ot0 (x := .v (.bool false)) rfl rfl rfl rfl (.moveX rfl) ?_
        refine RunT.xn rfl rfl rfl rfl rfl rfl ?_
        refine RunT.ot0 (x := .v (.bool false)) rfl rfl rfl rfl (.pickF rfl rfl) ?_
        refine RunT.ot0 (x := .v (.bool false)) rfl rfl rfl rfl (.moveX rfl) ?_
        refine RunT.xn rfl rfl rfl rfl rfl rfl ?_
        refine RunT.xn rfl rfl rfl rfl rfl rfl ?_
        refine RunT.xn rfl rfl rfl rfl rfl rfl ?_
        refine RunT.ot0 (x := .v (.bool false)) rfl rfl rfl rfl (.pickF rfl rfl) ?_
        refine RunT.ot0 (x := .v (.bool false)) rfl rfl rfl rfl (.moveX rfl) ?_
        refine RunT.xn rfl rfl rfl rfl rfl rfl ?_
        refine RunT.xn rfl rfl rfl rfl rfl rfl ?_
        refine RunT.xn rfl rfl rfl rfl rfl rfl ?_
        refine RunT.xn rfl rfl rfl rfl rfl rfl ?_
        refine RunT.ot0 (x := .v (.bool false)) rfl rfl rfl rfl (.pickF rfl rfl) ?_
        refine RunT.ot0 (x := .v (.bool false)) rfl rfl rfl rfl (.moveX rfl) ?_
        refine RunT.xn rfl rfl rfl rfl rfl rfl ?_
        refine RunT.xn rfl rfl rfl rfl rfl rfl ?_
        refine RunT.xn rfl rfl rfl rfl rfl rfl ?_
        refine RunT.xn rfl rfl rfl rfl rfl rfl ?_
        refine RunT.xn rfl rfl rfl rfl rfl rfl ?_
        refine RunT.ot0 (x := .v (.bool false)) rfl rfl rfl rfl (.pickF rfl rfl) ?_
        refine RunT.ot0 (x := .v (.bool false)) rfl rfl rfl rfl (.moveX rfl) ?_
        refine RunT.xn rfl rfl rfl rfl rfl rfl ?_
        refine RunT.xn rfl rfl rfl rfl rfl rfl ?_
        refine RunT.xn rfl rfl rfl rfl rfl rfl ?_
        refine RunT.xn rfl rfl rfl rfl rfl rfl ?_
        refine RunT.xn rfl rfl rfl rfl rfl rfl ?_
        refine RunT.ot0 (x := .v (.bool false)) rfl rfl rfl rfl (.pickF rfl rfl) ?_
        refine RunT.ot0 (x := .v (.bool false)) rfl rfl rfl rfl (.moveX rfl) ?_
        refine RunT.xn rfl rfl rfl rfl rfl rfl ?_
        refine RunT.xn rfl rfl rfl rfl rfl rfl ?_
        refine RunT.xn rfl rfl rfl rfl rfl rfl ?_
        refine RunT.xn rfl rfl rfl rfl rfl rfl ?_
        refine RunT.xn rfl rfl rfl rfl rfl rfl ?_
        refine RunT.ot0 (x := .v (.bool false)) rfl rfl rfl rfl (.pickF rfl rfl) ?_
        refine RunT.ot0 (x := .v (.bool false)) rfl rfl rfl rfl (.moveX rfl) ?_
        refine RunT.xn rfl rfl rfl rfl rfl rfl ?_
        refine RunT.xn rfl rfl rfl rfl rfl rfl ?_
        refine RunT.xn rfl rfl rfl rfl rfl rfl ?_
        refine RunT.xn rfl rfl rfl rfl rfl rfl ?_
        refine RunT.ot0 (x := .v (.bool false)) rfl rfl rfl rfl (.pickF rfl rfl) ?_
        refine RunT.ot0 (x := .v (.bool false)) rfl rfl rfl rfl (.moveX rfl) ?_
        refine RunT.xn rfl rfl rfl rfl rfl rfl ?_
        refine RunT.xn rfl rfl rfl rfl rfl rfl ?_
        refine RunT.xn rfl rfl rfl rfl rfl rfl ?_
        refine RunT.xn rfl rfl rfl rfl rfl rfl ?_
        refine RunT.xn rfl rfl rfl rfl rfl rfl ?_
        refine RunT.ot0 (x := .v (.bool false)) rfl rfl rfl rfl (.pickF rfl rfl) ?_
        refine RunT.ot0 (x := .v (.bool false)) rfl rfl rfl rfl (.moveX rfl) ?_
        refine RunT.xn rfl rfl rfl rfl rfl rfl ?_
        refine RunT.xn rfl rfl rfl rfl rfl rfl ?_
        refine RunT.xn rfl rfl rfl rfl rfl rfl ?_
        refine RunT.xn rfl rfl rfl rfl rfl rfl ?_
        refine RunT.ot0 (x := .v (.bool false)) rfl rfl rfl rfl (.pickF rfl rfl) ?_
        refine RunT.ot0 (x := .v (.bool false)) rfl rfl rfl rfl (.moveX rfl) ?_
        refine RunT.xn rfl rfl rfl rfl rfl rfl ?_
        refine RunT.xn rfl rfl rfl rfl rfl rfl ?_
        refine RunT.xn rfl rfl rfl rfl rfl rfl ?_
        refine RunT.xn rfl rfl rfl rfl rfl rfl ?_
        refine RunT.xn rfl rfl rfl rfl rfl rfl ?_
        refine RunT.ot0 (x := .v (.bool false)) rfl rfl rfl rfl (.pickF rfl rfl) ?_
        refine RunT.ot0 (x := .v (.bool false)) rfl rfl rfl rfl (.moveX rfl) ?_
        refine RunT.xn rfl rfl rfl rfl rfl rfl ?_
        refine RunT.xn rfl rfl rfl rfl rfl rfl ?_
        refine RunT.xn rfl rfl rfl rfl rfl rfl ?_
        refine RunT.xn rfl rfl rfl rfl rfl rfl ?_
        refine RunT.ot0 (x := .v (.bool false)) rfl rfl rfl rfl (.pickF rfl rfl) ?_
        refine RunT.ot0 (x := .v (.bool false)) rfl rfl rfl rfl (.assignX rfl) ?_
        refine RunT.nil ?_
        obtain rfl := si H
        refine T.sub (sub_to (st' := ⟨[(0, .v (.bool false))], [], 8, []⟩) [] (by decide) rfl rfl (⟨⟨_, rfl, .one .v⟩, trivial⟩) (trivial)) ?_
        refine T.ret ?_
        exact RetOk.same [.v (.bool false)] ⟨rfl, trivial⟩ rfl rfl rfl
    · replace H := cf H g8
      refine RunT.xn rfl rfl rfl (bo g8) rfl rfl ?_
      refine RunT.xn rfl rfl rfl (bo g8) rfl rfl ?_
      refine RunT.xn rfl rfl rfl (bo g8) rfl rfl ?_
      refine RunT.xn rfl rfl rfl (bo g8) rfl rfl ?_
      refine RunT.ot0 (x := .v (.bool false)) rfl rfl rfl rfl (.pickF (bo g8) rfl) ?_
      refine RunT.ot0 (x := .v (.bool false)) rfl rfl rfl rfl (.moveX rfl) ?_
      refine RunT.xn rfl rfl rfl rfl rfl rfl ?_
      refine RunT.xn rfl rfl rfl rfl rfl rfl ?_
      refine RunT.xn rfl rfl rfl rfl rfl rfl ?_
      refine RunT.ot0 (x := .v (.bool false)) rfl rfl rfl rfl (.pickF rfl rfl) ?_
      refine RunT.ot0 (x := .v (.bool false)) rfl rfl rfl rfl (.moveX rfl) ?_
      refine RunT.xn rfl rfl rfl rfl rfl rfl ?_
      refine RunT.xn rfl rfl rfl rfl rfl rfl ?_
      refine RunT.xn rfl rfl rfl rfl rfl rfl ?_
      refine RunT.xn rfl rfl rfl rfl rfl rfl ?_
      refine RunT.ot0 (x := .v (.bool false)) rfl rfl rfl rfl (.pickF rfl rfl) ?_
      refine RunT.ot0 (x := .v (.bool false)) rfl rfl rfl rfl (.moveX rfl) ?_
      refine RunT.xn rfl rfl rfl rfl rfl rfl ?_
      refine RunT.ot0 (x := .v (.bool false)) rfl rfl rfl rfl (.pickF rfl rfl) ?_
      refine RunT.ot0 (x := .v (.bool false)) rfl rfl rfl rfl (.moveX rfl) ?_
      refine RunT.xn rfl rfl rfl rfl rfl rfl ?_
      refine RunT.xn rfl rfl rfl rfl rfl rfl ?_
      refine RunT.xn rfl rfl rfl rfl rfl rfl ?_
      refine RunT.ot0 (x := .v (.bool false)) rfl rfl rfl rfl (.pickF rfl rfl) ?_
      refine RunT.ot0 (x := .v (.bool false)) rfl rfl rfl rfl (.moveX rfl) ?_
      refine RunT.xn rfl rfl rfl rfl rfl rfl ?_
      refine RunT.xn rfl rfl rfl rfl rfl rfl ?_
      refine RunT.xn rfl rfl rfl rfl rfl rfl ?_
      refine RunT.xn rfl rfl rfl rfl rfl rfl ?_
      refine RunT.ot0 (x := .v (.bool false)) rfl rfl rfl rfl (.pickF rfl rfl) ?_
      refine RunT.ot0 (x := .v (.bool false)) rfl rfl rfl rfl (.moveX rfl) ?_
      refine RunT.xn rfl rfl rfl rfl rfl rfl ?_
      refine RunT.xn rfl rfl rfl rfl rfl rfl ?_
      refine RunT.xn rfl rfl rfl rfl rfl rfl ?_
      refine RunT.xn rfl rfl rfl rfl rfl rfl ?_
      refine RunT.xn rfl rfl rfl rfl rfl rfl ?_
      refine RunT.ot0 (x := .v (.bool false)) rfl rfl rfl rfl (.pickF rfl rfl) ?_
      refine RunT.ot0 (x := .v (.bool false)) rfl rfl rfl rfl (.moveX rfl) ?_
      refine RunT.xn rfl rfl rfl rfl rfl rfl ?_
      refine RunT.xn rfl rfl rfl rfl rfl rfl ?_
      refine RunT.xn rfl rfl rfl rfl rfl rfl ?_
      refine RunT.xn rfl rfl rfl rfl rfl rfl ?_
      refine RunT.xn rfl rfl rfl rfl rfl rfl ?_
      refine RunT.ot0 (x := .v (.bool false)) rfl rfl rfl rfl (.pickF rfl rfl) ?_
      refine RunT.ot0 (x := .v (.bool false)) rfl rfl rfl rfl (.moveX rfl) ?_
      refine RunT.xn rfl rfl rfl rfl rfl rfl ?_
      refine RunT.xn rfl rfl rfl rfl rfl rfl ?_
      refine RunT.xn rfl rfl rfl rfl rfl rfl ?_
      refine RunT.xn rfl rfl rfl rfl rfl rfl ?_
      refine RunT.xn rfl rfl rfl rfl rfl rfl ?_
      refine RunT.ot0 (x := .v (.bool false)) rfl rfl rfl rfl (.pickF rfl rfl) ?_
      refine RunT.ot0 (x := .v (.bool false)) rfl rfl rfl rfl (.moveX rfl) ?_
      refine RunT.xn rfl rfl rfl rfl rfl rfl ?_
      refine RunT.xn rfl rfl rfl rfl rfl rfl ?_
      refine RunT.xn rfl rfl rfl rfl rfl rfl ?_
      refine RunT.xn rfl rfl rfl rfl rfl rfl ?_
      refine RunT.ot0 (x := .v (.bool false)) rfl rfl rfl rfl (.pickF rfl rfl) ?_
      refine RunT.ot0 (x := .v (.bool false)) rfl rfl rfl rfl (.moveX rfl) ?_
      refine RunT.xn rfl rfl rfl rfl rfl rfl ?_
      refine RunT.xn rfl rfl rfl rfl rfl rfl ?_
      refine RunT.xn rfl rfl rfl rfl rfl rfl ?_
      refine RunT.xn rfl rfl rfl rfl rfl rfl ?_
      refine RunT.xn rfl rfl rfl rfl rfl rfl ?_
      refine RunT.ot0 (x := .v (.bool false)) rfl rfl rfl rfl (.pickF rfl rfl) ?_
      refine RunT.ot0 (x := .v (.bool false)) rfl rfl rfl rfl (.moveX rfl) ?_
      refine RunT.xn rfl rfl rfl rfl rfl rfl ?_
      refine RunT.xn rfl rfl rfl rfl rfl rfl ?_
      refine RunT.xn rfl rfl rfl rfl rfl rfl ?_
      refine RunT.xn rfl rfl rfl rfl rfl rfl ?_
      refine RunT.ot0 (x := .v (.bool false)) rfl rfl rfl rfl (.pickF rfl rfl) ?_
      refine RunT.ot0 (x := .v (.bool false)) rfl rfl rfl rfl (.moveX rfl) ?_
      refine RunT.xn rfl rfl rfl rfl rfl rfl ?_
      refine RunT.xn rfl rfl rfl rfl rfl rfl ?_
      refine RunT.xn rfl rfl rfl rfl rfl rfl ?_
      refine RunT.xn rfl rfl rfl rfl rfl rfl ?_
      refine RunT.xn rfl rfl rfl rfl rfl rfl ?_
      refine RunT.ot0 (x := .v (.bool false)) rfl rfl rfl rfl (.pickF rfl rfl) ?_
      refine RunT.ot0 (x := .v (.bool false)) rfl rfl rfl rfl (.moveX rfl) ?_
      refine RunT.xn rfl rfl rfl rfl rfl rfl ?_
      refine RunT.xn rfl rfl rfl rfl rfl rfl ?_
      refine RunT.xn rfl rfl rfl rfl rfl rfl ?_
      refine RunT.xn rfl rfl rfl rfl rfl rfl ?_
      refine RunT.ot0 (x := .v (.bool false)) rfl rfl rfl rfl (.pickF rfl rfl) ?_
      refine RunT.ot0 (x := .v (.bool false)) rfl rfl rfl rfl (.assignX rfl) ?_
      refine RunT.nil ?_
      obtain rfl := si H
      refine T.sub (sub_to (st' := ⟨[(0, .v (.bool false))], [], 8, []⟩) [] (by decide) rfl rfl (⟨⟨_, rfl, .one .v⟩, trivial⟩) (trivial)) ?_
      refine T.ret ?_
      exact RetOk.same [.v (.bool false)] ⟨rfl, trivial⟩ rfl rfl rfl
  · replace H := cf H g5
    refine RunT.xn rfl rfl rfl (bo g5) rfl rfl ?_
    refine RunT.xn rfl rfl rfl (bo g5) rfl rfl ?_
    refine RunT.xn rfl rfl rfl (bo g5) rfl rfl ?_
    refine RunT.xn rfl rfl rfl (bo g5) rfl rfl ?_
    refine RunT.ot0 (x := .v (.bool false)) rfl rfl rfl rfl (.pickF (bo g5) rfl) ?_
    refine RunT.ot0 (x := .v (.bool false)) rfl rfl rfl rfl (.moveX rfl) ?_
    refine RunT.xn rfl rfl rfl rfl rfl rfl ?_
    refine RunT.xn rfl rfl rfl rfl rfl rfl ?_
    refine RunT.xn rfl rfl rfl rfl rfl rfl ?_
    refine RunT.xn rfl rfl rfl rfl rfl rfl ?_
    refine RunT.ot0 (x := .v (.bool false)) rfl rfl rfl rfl (.pickF rfl rfl) ?_
    refine RunT.ot0 (x := .v (.bool false)) rfl rfl rfl rfl (.moveX rfl) ?_
    refine RunT.xn rfl rfl rfl rfl rfl rfl ?_
    refine RunT.xn rfl rfl rfl rfl rfl rfl ?_
    refine RunT.xn rfl rfl rfl rfl rfl rfl ?_
    refine RunT.ot0 (x := .v (.bool false)) rfl rfl rfl rfl (.pickF rfl rfl) ?_
    refine RunT.ot0 (x := .v (.bool false)) rfl rfl rfl rfl (.moveX rfl) ?_
    refine RunT.xn rfl rfl rfl rfl rfl rfl ?_
    refine RunT.xn rfl rfl rfl rfl rfl rfl ?_
    refine RunT.xn rfl rfl rfl rfl rfl rfl ?_
    refine RunT.xn rfl rfl rfl rfl rfl rfl ?_
    refine RunT.ot0 (x := .v (.bool false)) rfl rfl rfl rfl (.pickF rfl rfl) ?_
    refine RunT.ot0 (x := .v (.bool false)) rfl rfl rfl rfl (.moveX rfl) ?_
    refine RunT.xn rfl rfl rfl rfl rfl rfl ?_
    refine RunT.ot0 (x := .v (.bool false)) rfl rfl rfl rfl (.pickF rfl rfl) ?_
    refine RunT.ot0 (x := .v (.bool false)) rfl rfl rfl rfl (.moveX rfl) ?_
    refine RunT.xn rfl rfl rfl rfl rfl rfl ?_
    refine RunT.xn rfl rfl rfl rfl rfl rfl ?_
    refine RunT.xn rfl rfl rfl rfl rfl rfl ?_
    refine RunT.ot0 (x := .v (.bool false)) rfl rfl rfl rfl (.pickF rfl rfl) ?_
    refine RunT.ot0 (x := .v (.bool false)) rfl rfl rfl rfl (.moveX rfl) ?_
    refine RunT.xn rfl rfl rfl rfl rfl rfl ?_
    refine RunT.xn rfl rfl rfl rfl rfl rfl ?_
    refine RunT.xn rfl rfl rfl rfl rfl rfl ?_
    refine RunT.xn rfl rfl rfl rfl rfl rfl ?_
    refine RunT.ot0 (x := .v (.bool false)) rfl rfl rfl rfl (.pickF rfl rfl) ?_
    refine RunT.ot0 (x := .v (.bool false)) rfl rfl rfl rfl (.moveX rfl) ?_
    refine RunT.xn rfl rfl rfl rfl rfl rfl ?_
    refine RunT.xn rfl rfl rfl rfl rfl rfl ?_
    refine RunT.xn rfl rfl rfl rfl rfl rfl ?_
    refine RunT.xn rfl rfl rfl rfl rfl rfl ?_
    refine RunT.xn rfl rfl rfl rfl rfl rfl ?_
    refine RunT.ot0 (x := .v (.bool false)) rfl rfl rfl rfl (.pickF rfl rfl) ?_
    refine RunT.ot0 (x := .v (.bool false)) rfl rfl rfl rfl (.moveX rfl) ?_
    refine RunT.xn rfl rfl rfl rfl rfl rfl ?_
    refine RunT.xn rfl rfl rfl rfl rfl rfl ?_
    refine RunT.xn rfl rfl rfl rfl rfl rfl ?_
    refine RunT.xn rfl rfl rfl rfl rfl rfl ?_
    refine RunT.xn rfl rfl rfl rfl rfl rfl ?_
    refine RunT.ot0 (x := .v (.bool false)) rfl rfl rfl rfl (.pickF rfl rfl) ?_
    refine RunT.ot0 (x := .v (.bool false)) rfl rfl rfl rfl (.moveX rfl) ?_
    refine RunT.xn rfl rfl rfl rfl rfl rfl ?_
    refine RunT.xn rfl rfl rfl rfl rfl rfl ?_
    refine RunT.xn rfl rfl rfl rfl rfl rfl ?_
    refine RunT.xn rfl rfl rfl rfl rfl rfl ?_
    refine RunT.xn rfl rfl rfl rfl rfl rfl ?_
    refine RunT.ot0 (x := .v (.bool false)) rfl rfl rfl rfl (.pickF rfl rfl) ?_
    refine RunT.ot0 (x := .v (.bool false)) rfl rfl rfl rfl (.moveX rfl) ?_
    refine RunT.xn rfl rfl rfl rfl rfl rfl ?_
    refine RunT.xn rfl rfl rfl rfl rfl rfl ?_
    refine RunT.xn rfl rfl rfl rfl rfl rfl ?_
    refine RunT.xn rfl rfl rfl rfl rfl rfl ?_
    refine RunT.ot0 (x := .v (.bool false)) rfl rfl rfl rfl (.pickF rfl rfl) ?_
    refine RunT.ot0 (x := .v (.bool false)) rfl rfl rfl rfl (.moveX rfl) ?_
    refine RunT.xn rfl rfl rfl rfl rfl rfl ?_
    refine RunT.xn rfl rfl rfl rfl rfl rfl ?_
    refine RunT.xn rfl rfl rfl rfl rfl rfl ?_
    refine RunT.xn rfl rfl rfl rfl rfl rfl ?_
    refine RunT.xn rfl rfl rfl rfl rfl rfl ?_
    refine RunT.ot0 (x := .v (.bool false)) rfl rfl rfl rfl (.pickF rfl rfl) ?_
    refine RunT.ot0 (x := .v (.bool false)) rfl rfl rfl rfl (.moveX rfl) ?_
    refine RunT.xn rfl rfl rfl rfl rfl rfl ?_
    refine RunT.xn rfl rfl rfl rfl rfl rfl ?_
    refine RunT.xn rfl rfl rfl rfl rfl rfl ?_
    refine RunT.xn rfl rfl rfl rfl rfl rfl ?_
    refine RunT.ot0 (x := .v (.bool false)) rfl rfl rfl rfl (.pickF rfl rfl) ?_
    refine RunT.ot0 (x := .v (.bool false)) rfl rfl rfl rfl (.moveX rfl) ?_
    refine RunT.xn rfl rfl rfl rfl rfl rfl ?_
    refine RunT.xn rfl rfl rfl rfl rfl rfl ?_
    refine RunT.xn rfl rfl rfl rfl rfl rfl ?_
    refine RunT.xn rfl rfl rfl rfl rfl rfl ?_
    refine RunT.xn rfl rfl rfl rfl rfl rfl ?_
    refine RunT.ot0 (x := .v (.bool false)) rfl rfl rfl rfl (.pickF rfl rfl) ?_
    refine RunT.ot0 (x := .v (.bool false)) rfl rfl rfl rfl (.moveX rfl) ?_
    refine RunT.xn rfl rfl rfl rfl rfl rfl ?_
    refine RunT.xn rfl rfl rfl rfl rfl rfl ?_
    refine RunT.xn rfl rfl rfl rfl rfl rfl ?_
    refine RunT.xn rfl rfl rfl rfl rfl rfl ?_
    refine RunT.ot0 (x := .v (.bool false)) rfl rfl rfl rfl (.pickF rfl rfl) ?_
    refine RunT.ot0 (x := .v (.bool false)) rfl rfl rfl rfl (.assignX rfl) ?_
    refine RunT.nil ?_
    obtain rfl := si H
    refine T.sub (sub_to (st' := ⟨[(0, .v (.bool false))], [], 8, []⟩) [] (by decide) rfl rfl (⟨⟨_, rfl, .one .v⟩, trivial⟩) (trivial)) ?_
    refine T.ret ?_
    exact RetOk.same [.v (.bool false)] ⟨rfl, trivial⟩ rfl rfl rfl
set_option maxHeartbeats 4000000 in
theorem ref6_Rising_pc (al : Bool) (k : Nat) (a0 : (List Int)) (o : (List Int)) (H : ref6_Rising k a0 = some o) : PC Try.prog al 66 [.lst (List.map eI a0)] (.frs 1 (List.map eI o)) := by
  unfold ref6_Rising at H
  refine PC.of_T Try.func66 rfl rfl (n := 60) rfl rfl (.inr (flat1_frs (sz := 1) fl_I)) ?_
  intro base B w0
  refine T.st (st' := ⟨[(0, .lst (List.map eI a0))], [], 0, []⟩) rfl ?_
  refine T.seq ?_
  refine T.region ?_
  refine RunT.ot0 (x := .v (.slice none 0 0)) rfl rfl rfl rfl (.assignX rfl) ?_
  refine RunT.nil ?_
  refine T.seq ?_
  refine T.region ?_
  refine RunT.ot0 (x := .v (.slice none 0 0)) rfl rfl rfl rfl (.assignX rfl) ?_
  refine RunT.nil ?_
  refine T.seq ?_
  refine T.seq ?_
  refine T.region ?_
  refine RunT.ot0 (x := .v (.int .i64 0)) rfl rfl rfl rfl (.assignX rfl) ?_
  refine RunT.nil ?_
  obtain ⟨o65, E66, HO67⟩ := bs H
  refine T.cutE (⟨[(3, .own 0 0 o65.length)], [(0, some (.arr false 1 (List.map eI o65)))], 8, []⟩) ?_ ?_
  · have H := E66
    refine T.block ?_
    refine T.loopS (fun n s => ∃ (v68 : (List Int)) (v69 : Int), ref6_Rising_l2 k a0 n v68 v69 = some o65 ∧ s = ⟨[(0, .lst (List.map eI a0)), (3, .own 0 0 v68.length), (4, .v (.int .i64 v69))], [(0, some (.arr false 1 (List.map eI v68)))], 8, []⟩) k ⟨_, ⟨[], 0, H, rfl⟩, sub_to [none] (by decide) rfl rfl (⟨⟨_, rfl, .one .lst⟩, ⟨⟨_, rfl, .one .nilO⟩, ⟨⟨_, rfl, .one .v⟩, trivial⟩⟩⟩) (⟨⟨rfl, .inr ⟨rfl, false, _, rfl, (by decide)⟩⟩, trivial⟩)⟩ ?_
    rintro n s ⟨v68, v69, H, rfl⟩
    rcases n with _ | n
    · cases (show none = some _ from H)
    rw [ref6_Rising_l2] at H
    refine T.seq ?_
    refine T.seq ?_
    refine T.region ?_
    refine RunT.ot0 (x := .v (.int .i64 v69)) rfl rfl rfl rfl (.moveX rfl) ?_
    refine RunT.ot0 (x := .lst (List.map eI a0)) rfl rfl rfl rfl (.moveX rfl) ?_
    refine RunT.ot0 (x := .v (.int .i64 (a0.length : Int))) rfl rfl rfl rfl (.lenLm Try.underlying23 rfl rfl) ?_
    refine RunT.ot0 (x := .v (.bool (decide (v69 < (a0.length : Int))))) rfl rfl rfl rfl (.bin rfl rfl (fun w => b_lss w) rfl) ?_
    refine RunT.nil ?_
    refine T.cond2 (t := decide (v69 < (a0.length : Int))) rfl (fun c70 => ?_) (fun c70 => ?_)
    · replace H := ct H c70
      refine T.skip ?_
      refine T.seq ?_
      refine T.block ?_
      refine T.seq ?_
      refine T.region ?_
      refine RunT.ot0 (x := .own 0 0 v68.length) rfl rfl rfl rfl (.moveX rfl) ?_
      refine RunT.ot0 (x := .v (.int .i64 (v68.length : Int))) rfl rfl rfl rfl (.lenON rfl Try.underlying23 rfl rfl) ?_
      refine RunT.ot0 (x := .v (.int .i64 (v68.length : Int))) rfl rfl rfl rfl (.assignX rfl) ?_
      refine RunT.nil ?_
      obtain ⟨o84, E85, HO86⟩ := bs H
      refine T.cut (⟨[(0, .lst (List.map eI a0)), (3, .own 0 0 v68.length), (4, .v (.int .i64 v69)), (5, .v (.int .i64 o84))], [(0, some (.arr false 1 (List.map eI v68)))], 8, []⟩) ?_ ?_
      · have H := E85
        refine T.block ?_
        refine T.loopS (fun n s => ∃ (v87 : Int), ref6_Rising_l3 k a0 v68 v69 n v87 = some o84 ∧ s = ⟨[(0, .lst (List.map eI a0)), (3, .own 0 0 v68.length), (4, .v (.int .i64 v69)), (5, .v (.int .i64 v87))], [(0, some (.arr false 1 (List.map eI v68)))], 8, []⟩) k ⟨_, ⟨(v68.length : Int), H, rfl⟩, sub_to [some 0] (by decide) rfl rfl (⟨⟨_, rfl, .one .lst⟩, ⟨⟨_, rfl, .one (.own rfl)⟩, ⟨⟨_, rfl, .one .v⟩, ⟨⟨_, rfl, .one .v⟩, trivial⟩⟩⟩⟩) (⟨⟨rfl, .inl ⟨_, _, rfl, rfl, .arr rfl⟩⟩, trivial⟩)⟩ ?_
        rintro n s ⟨v87, H, rfl⟩
        rcases n with _ | n
        · cases (show none = some _ from H)
        rw [ref6_Rising_l3] at H
        refine T.seq ?_
        refine T.seq ?_
        refine T.sub (sub_pick [0, 3, 4, 5] [0] (st' := ⟨[(0, .lst (List.map eI a0)), (3, .own 0 0 v68.length), (4, .v (.int .i64 v69)), (5, .v (.int .i64 v87))], [(0, some (.arr false 1 (List.map eI v68)))], 8, []⟩) rfl rfl rfl rfl rfl) ?_
        refine T.draw (wr := []) mixed rfl rfl ?_ rfl
        refine RunD.ot0 (x := .v (.int .i64 v87)) rfl rfl rfl rfl (.moveX rfl) rfl ?_
        refine RunD.ot0 (x := .v (.bool (decide (0 < v87)))) rfl rfl rfl rfl (.bin rfl rfl (fun w => b_gtr w) rfl) rfl ?_
        refine RunD.ot0 (x := .v (.bool (decide (0 < v87)))) rfl rfl rfl rfl (.moveX rfl) rfl ?_
        refine RunD.cases (t := 16) (c := decide (0 < v87)) rfl (fun g93 => ?_) (fun g93 => ?_)
        · replace H := ct H g93
          refine RunD.gt0 (x := .own 0 0 v68.length) rfl rfl rfl (bo g93) rfl rfl (.moveX rfl) rfl ?_
          refine RunD.gt0 (x := .v (.int .i64 v87)) rfl rfl rfl (bo g93) rfl rfl (.moveX rfl) rfl ?_
          refine RunD.gt0 (x := .v (.int .i64 (wr (v87 - 1)))) rfl rfl rfl (bo g93) rfl rfl (.bin rfl rfl (fun w => b_subw w) rfl) rfl ?_
          obtain ⟨y94, h95, H⟩ := bs H
          refine RunD.gt0 (x := .eptr 0 (wr (v87 - 1)).toNat 0) rfl rfl rfl (bo g93) rfl rfl (.idxOn rfl sl23 rfl rfl rfl h95) rfl ?_
          refine RunD.gt0 (x := .v (.int .i64 y94)) rfl rfl rfl (bo g93) rfl rfl (.loadEm ty3 rfl rfl (ixs h95).2.1 rfl) rfl ?_
          refine RunD.gt0 (x := .lst (List.map eI a0)) rfl rfl rfl (bo g93) rfl rfl (.moveX rfl) rfl ?_
          refine RunD.gt0 (x := .v (.int .i64 v69)) rfl rfl rfl (bo g93) rfl rfl (.moveX rfl) rfl ?_
          obtain ⟨y96, h97, H⟩ := bs H
          refine RunD.gt0 (x := .rptr [.v (.int .i64 y96)]) rfl rfl rfl (bo g93) rfl rfl (.idxLX h97 enc_I sl23 rfl rfl rfl) rfl ?_
          refine RunD.gt0 (x := .v (.int .i64 y96)) rfl rfl rfl (bo g93) rfl rfl (.loadR ty3 rfl rfl) rfl ?_
          refine RunD.gt0 (x := .v (.bool (decide (y96 < y94)))) rfl rfl rfl (bo g93) rfl rfl (.bin rfl rfl (fun w => b_gtr w) rfl) rfl ?_
          refine RunD.ot0 (x := .v (.bool (decide (y96 < y94)))) rfl rfl rfl rfl (.pickT (bo g93) rfl) rfl ?_
          refine RunD.nil (by kernel_rfl) ⟨rfl, rfl, ?_⟩
          refine T.cond2 (t := decide (y96 < y94)) rfl (fun c98 => ?_) (fun c98 => ?_)
          · replace H := ct H c98
            refine T.skip ?_
            refine T.block ?_
            refine T.sub (sub_pick [0, 3, 4, 5] [0] (st' := ⟨[(0, .lst (List.map eI a0)), (3, .own 0 0 v68.length), (4, .v (.int .i64 v69)), (5, .v (.int .i64 v87))], [(0, some (.arr false 1 (List.map eI v68)))], 120, []⟩) rfl rfl rfl rfl rfl) ?_
            refine T.region ?_
            refine RunT.ot0 (x := .v (.int .i64 v87)) rfl rfl rfl rfl (.moveX rfl) ?_
            refine RunT.ot0 (x := .v (.int .i64 (wr (v87 - 1)))) rfl rfl rfl rfl (.bin rfl rfl (fun w => b_subw w) rfl) ?_
            refine RunT.ot0 (x := .v (.int .i64 (wr (v87 - 1)))) rfl rfl rfl rfl (.assignX rfl) ?_
            refine RunT.nil ?_
            exact ⟨n, Nat.lt_succ_self n, _, ⟨wr (v87 - 1), H, rfl⟩, (sub_to [some 0] (by decide) rfl rfl (⟨⟨_, rfl, .one .lst⟩, ⟨⟨_, rfl, .one (.own rfl)⟩, ⟨⟨_, rfl, .one .v⟩, ⟨⟨_, rfl, .one .v⟩, trivial⟩⟩⟩⟩) (⟨⟨rfl, .inl ⟨_, _, rfl, rfl, .arr rfl⟩⟩, trivial⟩))⟩
          · replace H := cf H c98
            refine T.exit ?_
            obtain rfl := si H
            exact (sub_to [some 0] (by decide) rfl rfl (⟨⟨_, rfl, .one .lst⟩, ⟨⟨_, rfl, .one (.own rfl)⟩, ⟨⟨_, rfl, .one .v⟩, ⟨⟨_, rfl, .one .v⟩, trivial⟩⟩⟩⟩) (⟨⟨rfl, .inl ⟨_, _, rfl, rfl, .arr rfl⟩⟩, trivial⟩))
        · replace H := cf H g93
          refine RunD.xn rfl rfl rfl (bo g93) rfl rfl ?_
          refine RunD.xn rfl rfl rfl (bo g93) rfl rfl ?_
          refine RunD.xn rfl rfl rfl (bo g93) rfl rfl ?_
          refine RunD.xn rfl rfl rfl (bo g93) rfl rfl ?_
          refine RunD.xn rfl rfl rfl (bo g93) rfl rfl ?_
          refine RunD.xn rfl rfl rfl (bo g93) rfl rfl ?_
          refine RunD.xn rfl rfl rfl (bo g93) rfl rfl ?_
          refine RunD.xn rfl rfl rfl (bo g93) rfl rfl ?_
          refine RunD.xn rfl rfl rfl (bo g93) rfl rfl ?_
          refine RunD.xn rfl rfl rfl (bo g93) rfl rfl ?_
          refine RunD.ot0 (x := .v (.bool false)) rfl rfl rfl rfl (.pickF (bo g93) rfl) rfl ?_
          refine RunD.nil (by kernel_rfl) ⟨rfl, rfl, ?_⟩
          refine T.condF rfl ?_
          refine T.exit ?_
          obtain rfl := si H
          exact (sub_to [some 0] (by decide) rfl rfl (⟨⟨_, rfl, .one .lst⟩, ⟨⟨_, rfl, .one (.own rfl)⟩, ⟨⟨_, rfl, .one .v⟩, ⟨⟨_, rfl, .one .v⟩, trivial⟩⟩⟩⟩) (⟨⟨rfl, .inl ⟨_, _, rfl, rfl, .arr rfl⟩⟩, trivial⟩))
      · have H := HO86
        refine T.seq ?_
        refine T.seq ?_
        refine T.sub (sub_pick [0, 3, 4, 5] [0] (st' := ⟨[(0, .lst (List.map eI a0)), (3, .own 0 0 v68.length), (4, .v (.int .i64 v69)), (5, .v (.int .i64 o84))], [(0, some (.arr false 1 (List.map eI v68)))], 8, []⟩) rfl rfl rfl rfl rfl) ?_
        refine T.draw (wr := []) mixed rfl rfl ?_ rfl
        refine RunD.ot0 (x := .v (.int .i64 o84)) rfl rfl rfl rfl (.moveX rfl) rfl ?_
        refine RunD.ot0 (x := .v (.bool (decide (0 < o84)))) rfl rfl rfl rfl (.bin rfl rfl (fun w => b_gtr w) rfl) rfl ?_
        refine RunD.ot0 (x := .v (.bool (decide (0 < o84)))) rfl rfl rfl rfl (.moveX rfl) rfl ?_
        refine RunD.cases (t := 32) (c := decide (0 < o84)) rfl (fun g104 => ?_) (fun g104 => ?_)
        · replace H := ct H g104
          refine RunD.gt0 (x := .own 0 0 v68.length) rfl rfl rfl (bo g104) rfl rfl (.moveX rfl) rfl ?_
          refine RunD.gt0 (x := .v (.int .i64 o84)) rfl rfl rfl (bo g104) rfl rfl (.moveX rfl) rfl ?_
          refine RunD.gt0 (x := .v (.int .i64 (wr (o84 - 1)))) rfl rfl rfl (bo g104) rfl rfl (.bin rfl rfl (fun w => b_subw w) rfl) rfl ?_
          obtain ⟨y105, h106, H⟩ := bs H
          refine RunD.gt0 (x := .eptr 0 (wr (o84 - 1)).toNat 0) rfl rfl rfl (bo g104) rfl rfl (.idxOn rfl sl23 rfl rfl rfl h106) rfl ?_
          refine RunD.gt0 (x := .v (.int .i64 y105)) rfl rfl rfl (bo g104) rfl rfl (.loadEm ty3 rfl rfl (ixs h106).2.1 rfl) rfl ?_
          refine RunD.gt0 (x := .lst (List.map eI a0)) rfl rfl rfl (bo g104) rfl rfl (.moveX rfl) rfl ?_
          refine RunD.gt0 (x := .v (.int .i64 v69)) rfl rfl rfl (bo g104) rfl rfl (.moveX rfl) rfl ?_
          obtain ⟨y107, h108, H⟩ := bs H
          refine RunD.gt0 (x := .rptr [.v (.int .i64 y107)]) rfl rfl rfl (bo g104) rfl rfl (.idxLX h108 enc_I sl23 rfl rfl rfl) rfl ?_
          refine RunD.gt0 (x := .v (.int .i64 y107)) rfl rfl rfl (bo g104) rfl rfl (.loadR ty3 rfl rfl) rfl ?_
          refine RunD.gt0 (x := .v (.bool (decide (y105 = y107)))) rfl rfl rfl (bo g104) rfl rfl (.bin rfl rfl (fun w => b_eql w) rfl) rfl ?_
          refine RunD.ot0 (x := .v (.bool (decide (y105 = y107)))) rfl rfl rfl rfl (.pickT (bo g104) rfl) rfl ?_
          refine RunD.nil (by kernel_rfl) ⟨rfl, rfl, ?_⟩
          refine T.cond2 (t := decide (y105 = y107)) rfl (fun c109 => ?_) (fun c109 => ?_)
          · replace H := ct H c109
            refine T.exit ?_
            refine T.sub (sub_pick [0, 3, 4] [0] (st' := ⟨[(0, .lst (List.map eI a0)), (3, .own 0 0 v68.length), (4, .v (.int .i64 v69))], [(0, some (.arr false 1 (List.map eI v68)))], 120, []⟩) rfl rfl rfl rfl rfl) ?_
            refine T.region ?_
            refine RunT.ot0 (x := .v (.int .i64 v69)) rfl rfl rfl rfl (.moveX rfl) ?_
            refine RunT.ot0 (x := .v (.int .i64 (wr (v69 + 1)))) rfl rfl rfl rfl (.bin rfl rfl (fun w => b_addw w) rfl) ?_
            refine RunT.ot0 (x := .v (.int .i64 (wr (v69 + 1)))) rfl rfl rfl rfl (.assignX rfl) ?_
            refine RunT.nil ?_
            exact ⟨n, Nat.lt_succ_self n, _, ⟨v68, wr (v69 + 1), H, rfl⟩, (sub_to [some 0] (by decide) rfl rfl (⟨⟨_, rfl, .one .lst⟩, ⟨⟨_, rfl, .one (.own rfl)⟩, ⟨⟨_, rfl, .one .v⟩, trivial⟩⟩⟩) (⟨⟨rfl, .inl ⟨_, _, rfl, rfl, .arr rfl⟩⟩, trivial⟩))⟩
          · replace H := cf H c109
            refine T.skip ?_
            refine T.draw (wr := [(4, [120]), (10, [152]), (14, [200])]) mixed rfl rfl ?_ rfl
            refine RunD.ot1 (x := .own 120 0 ((([] : List Int)).length)) (p0 := (120, some (.arr false 1 (List.map eI ([] : List Int))))) rfl rfl rfl rfl (.bslicem (d := false) (l := ([] : List Int)) (f := eI) sl23 rfl rfl rfl enc_I rfl) rfl ?_
            refine RunD.ot0 (x := .own 0 0 v68.length) rfl rfl rfl rfl (.moveX rfl) rfl ?_
            refine RunD.ot0 (x := .v (.int .i64 o84)) rfl rfl rfl rfl (.moveX rfl) rfl ?_
            obtain ⟨h117, H⟩ := gs H
            refine RunD.ot0 (x := .own 0 0 o84.toNat) rfl rfl rfl rfl (.sliceOh (h := o84) sl23 rfl rfl ⟨_, rfl⟩ rfl (of_decide_eq_true h117)) rfl ?_
            obtain ⟨h118, H⟩ := gs H
            refine RunD.ot2 (x := .own 152 0 ((([] : List Int) ++ ((v68).take o84.toNat)).length)) (p0 := (152, some (.arr false 1 (List.map eI (([] : List Int) ++ ((v68).take o84.toNat)))))) (p1 := (120, none)) rfl rfl rfl rfl (.appOn (d := false) (l := ([] : List Int)) (m := (v68).take o84.toNat) (f := eI) rfl sl23 rfl rfl rfl (.ownh Try.underlying23 rfl (le_of_cut h117) (fun h => by cases h)) rfl h118) rfl ?_
            refine RunD.ot0 (x := .lst (List.map eI a0)) rfl rfl rfl rfl (.moveX rfl) rfl ?_
            refine RunD.ot0 (x := .v (.int .i64 v69)) rfl rfl rfl rfl (.moveX rfl) rfl ?_
            obtain ⟨y119, h120, H⟩ := bs H
            refine RunD.ot0 (x := .rptr [.v (.int .i64 y119)]) rfl rfl rfl rfl (.idxLX h120 enc_I sl23 rfl rfl rfl) rfl ?_
            refine RunD.ot0 (x := .v (.int .i64 y119)) rfl rfl rfl rfl (.loadR ty3 rfl rfl) rfl ?_
            refine RunD.ot1 (x := .own 192 0 (([y119]).length)) (p0 := (192, some (.arr false 1 (List.map eI [y119])))) rfl rfl rfl rfl (.bslicem (d := false) (l := [y119]) (f := eI) sl23 rfl rfl rfl enc_I rfl) rfl ?_
            obtain ⟨h121, H⟩ := gs H
            refine RunD.ot2 (x := .own 200 0 (((([] : List Int) ++ ((v68).take o84.toNat)) ++ [y119]).length)) (p0 := (200, some (.arr false 1 (List.map eI ((([] : List Int) ++ ((v68).take o84.toNat)) ++ [y119]))))) (p1 := (152, none)) rfl rfl rfl rfl (.appOn (d := false) (l := ([] : List Int) ++ ((v68).take o84.toNat)) (m := [y119]) (f := eI) rfl sl23 rfl rfl rfl (.ownn Try.underlying23 rfl rfl (fun h => by cases h)) rfl h121) rfl ?_
            refine RunD.ot0 (x := .own 0 0 v68.length) rfl rfl rfl rfl (.moveX rfl) rfl ?_
            refine RunD.ot0 (x := .v (.int .i64 o84)) rfl rfl rfl rfl (.moveX rfl) rfl ?_
            obtain ⟨h122, H⟩ := gs H
            refine RunD.ot0 (x := .own 0 o84.toNat ((v68.length : Int).toNat - o84.toNat)) rfl rfl rfl rfl (.sliceOm (a := o84) (h := (v68.length : Int)) sl23 rfl rfl ⟨_, rfl⟩ rfl rfl (of_decide_eq_true h122).1 (of_decide_eq_true h122).2.1 (of_decide_eq_true h122).2.2) rfl ?_
            obtain ⟨h123, H⟩ := gs H
            refine RunD.ot2 (x := .own 232 0 ((((([] : List Int) ++ ((v68).take o84.toNat)) ++ [y119]) ++ (((v68).drop o84.toNat).take ((v68.length : Int).toNat - o84.toNat))).length)) (p0 := (232, some (.arr false 1 (List.map eI (((([] : List Int) ++ ((v68).take o84.toNat)) ++ [y119]) ++ (((v68).drop o84.toNat).take ((v68.length : Int).toNat - o84.toNat))))))) (p1 := (200, none)) rfl rfl rfl rfl (.appOn (d := false) (l := (([] : List Int) ++ ((v68).take o84.toNat)) ++ [y119]) (m := ((v68).drop o84.toNat).take ((v68.length : Int).toNat - o84.toNat)) (f := eI) rfl sl23 rfl rfl rfl (.owns Try.underlying23 rfl (le_of_mid h122) (fun h => by cases h)) rfl h123) rfl ?_
            refine RunD.ot0 (x := .own 232 0 ((((([] : List Int) ++ ((v68).take o84.toNat)) ++ [y119]) ++ (((v68).drop o84.toNat).take ((v68.length : Int).toNat - o84.toNat))).length)) rfl rfl rfl rfl (.assignX rfl) rfl ?_
            refine RunD.nil (by kernel_rfl) ⟨rfl, rfl, ?_⟩
            refine T.sub (sub_pick [0, 3, 4] [232] (st' := ⟨[(0, .lst (List.map eI a0)), (3, .own 232 0 ((((([] : List Int) ++ ((v68).take o84.toNat)) ++ [y119]) ++ (((v68).drop o84.toNat).take ((v68.length : Int).toNat - o84.toNat))).length)), (4, .v (.int .i64 v69))], [(232, some (.arr false 1 (List.map eI (((([] : List Int) ++ ((v68).take o84.toNat)) ++ [y119]) ++ (((v68).drop o84.toNat).take ((v68.length : Int).toNat - o84.toNat))))))], 248, []⟩) rfl rfl rfl rfl rfl) ?_
            refine T.region ?_
            refine RunT.ot0 (x := .v (.int .i64 v69)) rfl rfl rfl rfl (.moveX rfl) ?_
            refine RunT.ot0 (x := .v (.int .i64 (wr (v69 + 1)))) rfl rfl rfl rfl (.bin rfl rfl (fun w => b_addw w) rfl) ?_
            refine RunT.ot0 (x := .v (.int .i64 (wr (v69 + 1)))) rfl rfl rfl rfl (.assignX rfl) ?_
            refine RunT.nil ?_
            exact ⟨n, Nat.lt_succ_self n, _, ⟨((([] : List Int) ++ ((v68).take o84.toNat)) ++ [y119]) ++ (((v68).drop o84.toNat).take ((v68.length : Int).toNat - o84.toNat)), wr (v69 + 1), H, rfl⟩, (sub_to [some 232] (by decide) rfl rfl (⟨⟨_, rfl, .one .lst⟩, ⟨⟨_, rfl, .one (.own rfl)⟩, ⟨⟨_, rfl, .one .v⟩, trivial⟩⟩⟩) (⟨⟨rfl, .inl ⟨_, _, rfl, rfl, .arr rfl⟩⟩, trivial⟩))⟩
        · replace H := cf H g104
          refine RunD.xn rfl rfl rfl (bo g104) rfl rfl ?_
          refine RunD.xn rfl rfl rfl (bo g104) rfl rfl ?_
          refine RunD.xn rfl rfl rfl (bo g104) rfl rfl ?_
          refine RunD.xn rfl rfl rfl (bo g104) rfl rfl ?_
          refine RunD.xn rfl rfl rfl (bo g104) rfl rfl ?_
          refine RunD.xn rfl rfl rfl (bo g104) rfl rfl ?_
          refine RunD.xn rfl rfl rfl (bo g104) rfl rfl ?_
          refine RunD.xn rfl rfl rfl (bo g104) rfl rfl ?_
          refine RunD.xn rfl rfl rfl (bo g104) rfl rfl ?_
          refine RunD.xn rfl rfl rfl (bo g104) rfl rfl ?_
          refine RunD.ot0 (x := .v (.bool false)) rfl rfl rfl rfl (.pickF (bo g104) rfl) rfl ?_
          refine RunD.nil (by kernel_rfl) ⟨rfl, rfl, ?_⟩
          refine T.condF rfl ?_
          refine T.skip ?_
          refine T.sub (sub_pick [0, 3, 4, 5] [0] (st' := ⟨[(0, .lst (List.map eI a0)), (3, .own 0 0 v68.length), (4, .v (.int .i64 v69)), (5, .v (.int .i64 o84))], [(0, some (.arr false 1 (List.map eI v68)))], 120, []⟩) rfl rfl rfl rfl rfl) ?_
          refine T.draw (wr := [(4, [120]), (10, [152]), (14, [200])]) mixed rfl rfl ?_ rfl
          refine RunD.ot1 (x := .own 120 0 ((([] : List Int)).length)) (p0 := (120, some (.arr false 1 (List.map eI ([] : List Int))))) rfl rfl rfl rfl (.bslicem (d := false) (l := ([] : List Int)) (f := eI) sl23 rfl rfl rfl enc_I rfl) rfl ?_
          refine RunD.ot0 (x := .own 0 0 v68.length) rfl rfl rfl rfl (.moveX rfl) rfl ?_
          refine RunD.ot0 (x := .v (.int .i64 o84)) rfl rfl rfl rfl (.moveX rfl) rfl ?_
          obtain ⟨h131, H⟩ := gs H
          refine RunD.ot0 (x := .own 0 0 o84.toNat) rfl rfl rfl rfl (.sliceOh (h := o84) sl23 rfl rfl ⟨_, rfl⟩ rfl (of_decide_eq_true h131)) rfl ?_
          obtain ⟨h132, H⟩ := gs H
          refine RunD.ot2 (x := .own 152 0 ((([] : List Int) ++ ((v68).take o84.toNat)).length)) (p0 := (152, some (.arr false 1 (List.map eI (([] : List Int) ++ ((v68).take o84.toNat)))))) (p1 := (120, none)) rfl rfl rfl rfl (.appOn (d := false) (l := ([] : List Int)) (m := (v68).take o84.toNat) (f := eI) rfl sl23 rfl rfl rfl (.ownh Try.underlying23 rfl (le_of_cut h131) (fun h => by cases h)) rfl h132) rfl ?_
          refine RunD.ot0 (x := .lst (List.map eI a0)) rfl rfl rfl rfl (.moveX rfl) rfl ?_
          refine RunD.ot0 (x := .v (.int .i64 v69)) rfl rfl rfl rfl (.moveX rfl) rfl ?_
          obtain ⟨y133, h134, H⟩ := bs H
          refine RunD.ot0 (x := .rptr [.v (.int .i64 y133)]) rfl rfl rfl rfl (.idxLX h134 enc_I sl23 rfl rfl rfl) rfl ?_
          refine RunD.ot0 (x := .v (.int .i64 y133)) rfl rfl rfl rfl (.loadR ty3 rfl rfl) rfl ?_
          refine RunD.ot1 (x := .own 192 0 (([y133]).length)) (p0 := (192, some (.arr false 1 (List.map eI [y133])))) rfl rfl rfl rfl (.bslicem (d := false) (l := [y133]) (f := eI) sl23 rfl rfl rfl enc_I rfl) rfl ?_
          obtain ⟨h135, H⟩ := gs H
          refine RunD.ot2 (x := .own 200 0 (((([] : List Int) ++ ((v68).take o84.toNat)) ++ [y133]).length)) (p0 := (200, some (.arr false 1 (List.map eI ((([] : List Int) ++ ((v68).take o84.toNat)) ++ [y133]))))) (p1 := (152, none)) rfl rfl rfl rfl (.appOn (d := false) (l := ([] : List Int) ++ ((v68).take o84.toNat)) (m := [y133]) (f := eI) rfl sl23 rfl rfl rfl (.ownn Try.underlying23 rfl rfl (fun h => by cases h)) rfl h135) rfl ?_
          refine RunD.ot0 (x := .own 0 0 v68.length) rfl rfl rfl rfl (.moveX rfl) rfl ?_
          refine RunD.ot0 (x := .v (.int .i64 o84)) rfl rfl rfl rfl (.moveX rfl) rfl ?_
          obtain ⟨h136, H⟩ := gs H
          refine RunD.ot0 (x := .own 0 o84.toNat ((v68.length : Int).toNat - o84.toNat)) rfl rfl rfl rfl (.sliceOm (a := o84) (h := (v68.length : Int)) sl23 rfl rfl ⟨_, rfl⟩ rfl rfl (of_decide_eq_true h136).1 (of_decide_eq_true h136).2.1 (of_decide_eq_true h136).2.2) rfl ?_
          obtain ⟨h137, H⟩ := gs H
          refine RunD.ot2 (x := .own 232 0 ((((([] : List Int) ++ ((v68).take o84.toNat)) ++ [y133]) ++ (((v68).drop o84.toNat).take ((v68.length : Int).toNat - o84.toNat))).length)) (p0 := (232, some (.arr false 1 (List.map eI (((([] : List Int) ++ ((v68).take o84.toNat)) ++ [y133]) ++ (((v68).drop o84.toNat).take ((v68.length : Int).toNat - o84.toNat))))))) (p1 := (200, none)) rfl rfl rfl rfl (.appOn (d := false) (l := (([] : List Int) ++ ((v68).take o84.toNat)) ++ [y133]) (m := ((v68).drop o84.toNat).take ((v68.length : Int).toNat - o84.toNat)) (f := eI) rfl sl23 rfl rfl rfl (.owns Try.underlying23 rfl (le_of_mid h136) (fun h => by cases h)) rfl h137) rfl ?_
          refine RunD.ot0 (x := .own 232 0 ((((([] : List Int) ++ ((v68).take o84.toNat)) ++ [y133]) ++ (((v68).drop o84.toNat).take ((v68.length : Int).toNat - o84.toNat))).length)) rfl rfl rfl rfl (.assignX rfl) rfl ?_
          refine RunD.nil (by kernel_rfl) ⟨rfl, rfl, ?_⟩
          refine T.sub (sub_pick [0, 3, 4] [232] (st' := ⟨[(0, .lst (List.map eI a0)), (3, .own 232 0 ((((([] : List Int) ++ ((v68).take o84.toNat)) ++ [y133]) ++ (((v68).drop o84.toNat).take ((v68.length : Int).toNat - o84.toNat))).length)), (4, .v (.int .i64 v69))], [(232, some (.arr false 1 (List.map eI (((([] : List Int) ++ ((v68).take o84.toNat)) ++ [y133]) ++ (((v68).drop o84.toNat).take ((v68.length : Int).toNat - o84.toNat))))))], 248, []⟩) rfl rfl rfl rfl rfl) ?_
          refine T.region ?_
          refine RunT.ot0 (x := .v (.int .i64 v69)) rfl rfl rfl rfl (.moveX rfl) ?_
          refine RunT.ot0 (x := .v (.int .i64 (wr (v69 + 1)))) rfl rfl rfl rfl (.bin rfl rfl (fun w => b_addw w) rfl) ?_
          refine RunT.ot0 (x := .v (.int .i64 (wr (v69 + 1)))) rfl rfl rfl rfl (.assignX rfl) ?_
          refine RunT.nil ?_
          exact ⟨n, Nat.lt_succ_self n, _, ⟨((([] : List Int) ++ ((v68).take o84.toNat)) ++ [y133]) ++ (((v68).drop o84.toNat).take ((v68.length : Int).toNat - o84.toNat)), wr (v69 + 1), H, rfl⟩, (sub_to [some 232] (by decide) rfl rfl (⟨⟨_, rfl, .one .lst⟩, ⟨⟨_, rfl, .one (.own rfl)⟩, ⟨⟨_, rfl, .one .v⟩, trivial⟩⟩⟩) (⟨⟨rfl, .inl ⟨_, _, rfl, rfl, .arr rfl⟩⟩, trivial⟩))⟩
    · replace H := cf H c70
      refine T.exit ?_
      obtain rfl := si H
      exact (sub_to [some 0] (by decide) rfl rfl (⟨⟨_, rfl, .one (.own rfl)⟩, trivial⟩) (⟨⟨rfl, .inl ⟨_, _, rfl, rfl, .arr rfl⟩⟩, trivial⟩))
  · intro s hS
    have H := HO67
    refine T.sub hS ?_
    refine T.seq ?_
    refine T.region ?_
    refine RunT.ot0 (x := .own 0 0 o65.length) rfl rfl rfl rfl (.moveX rfl) ?_
    refine RunT.ot0 (x := .own 0 0 o65.length) rfl rfl rfl rfl (.assignX rfl) ?_
    refine RunT.nil ?_
    obtain rfl := si H
    refine T.sub (sub_to (st' := ⟨[(2, .own 0 0 ((List.map eI o65).length))], [(0, some (.arr false 1 (List.map eI o65)))], 8, []⟩) [some 0] (by decide) rfl rfl (⟨⟨_, rfl, .one (.own' rfl (List.length_map _).symm)⟩, trivial⟩) (⟨⟨rfl, .inl ⟨_, _, rfl, rfl, .arr rfl⟩⟩, trivial⟩)) ?_
    refine T.ret ?_
    exact RetOk.same [.own 0 0 ((List.map eI o65).length)] ⟨rfl, trivial⟩ rfl rfl rfl
set_option maxHeartbeats 4000000 in
theorem law11_PlaceKilled_pc (al : Bool) (k : Nat) (a0 : (List Int)) (a1 : Party) (a2 : Int) (o : Bool) (H : law11_PlaceKilled k a0 a1 a2 = some o) : PC Try.prog al 18 [.lst (List.map eI a0), .agg [.v (.int .i64 a1.Size), .v (.int .i64 a1.Wheels)], .v (.int .i64 a2)] (.v (.bool o)) := by
  unfold law11_PlaceKilled at H
  refine PC.of_T Try.func18 rfl rfl (n := 91) rfl rfl (.inr rfl) ?_
  intro base B w0
  refine T.st (st' := ⟨[(0, .lst (List.map eI a0)), (1, .agg [.v (.int .i64 a1.Size), .v (.int .i64 a1.Wheels)]), (2, .v (.int .i64 a2))], [], 0, []⟩) rfl ?_
  refine T.seq ?_
  refine T.region ?_
  refine RunT.ot1 (x := .ptr 0 0) (p0 := (0, some (.box [.v (.int .i64 a1.Size), .v (.int .i64 a1.Wheels)]))) (n' := 8) rfl rfl rfl rfl (.boxX rfl rfl rfl) rfl ?_
  refine RunT.ot0 (x := .v (.bool false)) rfl rfl rfl rfl (.assignX rfl) ?_
  refine RunT.nil ?_
  refine T.seq ?_
  refine T.region ?_
  refine RunT.ot0 (x := .lst (List.map eI a0)) rfl rfl rfl rfl (.moveX rfl) ?_
  obtain ⟨r1, h2, H⟩ := bs H
  refine RunT.ot0 (x := .agg [.lst (List.map eSeat r1.Seats), .v (.int .i64 r1.Gap), .v (.int .i64 r1.Radius), .lst (List.map eI r1.Kills), .lst (List.map ePole r1.Poles)]) rfl rfl rfl rfl (.callp (PC.frozen (law3_Make_pc false k a0 25 r1 h2)) rfl ⟨(.one .lst), (.one .v), trivial⟩ rfl rfl rfl) ?_
  refine RunT.ot1 (x := .ptr 8 0) (p0 := (8, some (.box [.v (.slice none 0 0), .v (.int .i64 0), .v (.int .i64 0), .v (.slice none 0 0), .v (.slice none 0 0)]))) (n' := 16) rfl rfl rfl rfl (.allocX in26.zero rfl rfl) rfl ?_
  refine RunT.on1 (x := .junk) (p0 := (8, some (.box [.lst (List.map eSeat r1.Seats), .v (.int .i64 r1.Gap), .v (.int .i64 r1.Radius), .lst (List.map eI r1.Kills), .lst (List.map ePole r1.Poles)]))) (n' := 24) rfl rfl rfl (.storePX ty26 rfl rfl rfl rfl rfl rfl rfl) rfl ?_
  refine RunT.nil ?_
  refine T.seq ?_
  refine T.region ?_
  refine RunT.ot0 (x := .v (.int .i64 a2)) rfl rfl rfl rfl (.moveX rfl) ?_
  refine RunT.ot0 (x := .v (.int .u64 (IntKind.u64.wrap a2))) rfl rfl rfl rfl (.conv rfl (fun w => c_int w ⟨_, Try.underlying3⟩ Try.underlying41) rfl) ?_
  refine RunT.ot0 (x := .ptr 8 0) rfl rfl rfl rfl (.fieldPX fl26_0 rfl rfl) ?_
  refine RunT.ot0 (x := .lst (List.map eSeat r1.Seats)) rfl rfl rfl rfl (.loadP ty22 rfl rfl rfl) ?_
  refine RunT.ot0 (x := .v (.int .i64 (r1.Seats.length : Int))) rfl rfl rfl rfl (.lenLm Try.underlying22 rfl rfl) ?_
  refine RunT.ot0 (x := .v (.int .u64 (IntKind.u64.wrap (r1.Seats.length : Int)))) rfl rfl rfl rfl (.conv rfl (fun w => c_int w ⟨_, Try.underlying3⟩ Try.underlying41) rfl) ?_
  obtain ⟨h3, H⟩ := gs H
  refine RunT.ot0 (x := .v (.int .u64 ((IntKind.u64.wrap a2).tmod (IntKind.u64.wrap (r1.Seats.length : Int))))) rfl rfl rfl rfl (.bin rfl rfl (fun w => b_rem w (of_decide_eq_true h3)) rfl) ?_
  refine RunT.ot0 (x := .v (.int .i64 (wr ((IntKind.u64.wrap a2).tmod (IntKind.u64.wrap (r1.Seats.length : Int)))))) rfl rfl rfl rfl (.conv rfl (fun w => c_intw w ⟨_, Try.underlying41⟩ Try.underlying3) rfl) ?_
  refine RunT.ot0 (x := .v (.int .i64 (wr ((IntKind.u64.wrap a2).tmod (IntKind.u64.wrap (r1.Seats.length : Int)))))) rfl rfl rfl rfl (.assignX rfl) ?_
  refine RunT.nil ?_
  refine T.seq ?_
  refine T.region ?_
  refine RunT.ot0 (x := .agg [.lst (List.map eSeat r1.Seats), .v (.int .i64 r1.Gap), .v (.int .i64 r1.Radius), .lst (List.map eI r1.Kills), .lst (List.map ePole r1.Poles)]) rfl rfl rfl rfl (.loadP ty26 rfl rfl rfl) ?_
  refine RunT.ot1 (x := .ptr 24 0) (p0 := (24, some (.box [.v (.slice none 0 0), .v (.int .i64 0), .v (.int .i64 0), .v (.slice none 0 0), .v (.slice none 0 0)]))) (n' := 32) rfl rfl rfl rfl (.allocX in26.zero rfl rfl) rfl ?_
  refine RunT.on1 (x := .junk) (p0 := (24, some (.box [.lst (List.map eSeat r1.Seats), .v (.int .i64 r1.Gap), .v (.int .i64 r1.Radius), .lst (List.map eI r1.Kills), .lst (List.map ePole r1.Poles)]))) (n' := 40) rfl rfl rfl (.storePX ty26 rfl rfl rfl rfl rfl rfl rfl) rfl ?_
  refine RunT.nil ?_
  refine T.seq ?_
  refine T.sub (sub_pick [4, 7, 8, 9] [0, 8, 24] (st' := ⟨[(4, .ptr 0 0), (7, .ptr 8 0), (8, .v (.int .i64 (wr ((IntKind.u64.wrap a2).tmod (IntKind.u64.wrap (r1.Seats.length : Int)))))), (9, .ptr 24 0)], [(0, some (.box [.v (.int .i64 a1.Size), .v (.int .i64 a1.Wheels)])), (8, some (.box [.lst (List.map eSeat r1.Seats), .v (.int .i64 r1.Gap), .v (.int .i64 r1.Radius), .lst (List.map eI r1.Kills), .lst (List.map ePole r1.Poles)])), (24, some (.box [.lst (List.map eSeat r1.Seats), .v (.int .i64 r1.Gap), .v (.int .i64 r1.Radius), .lst (List.map eI r1.Kills), .lst (List.map ePole r1.Poles)]))], 40, []⟩) rfl rfl rfl rfl rfl) ?_
  refine T.region ?_
  refine RunT.ot1 (x := .own 40 0 ((([] : List Int)).length)) (p0 := (40, some (.arr false 1 (List.map eI ([] : List Int))))) (n' := 48) rfl rfl rfl rfl (.bslicem (d := false) (l := ([] : List Int)) (f := eI) sl23 rfl rfl rfl enc_I rfl) rfl ?_
  refine RunT.ot0 (x := .ptr 8 3) rfl rfl rfl rfl (.fieldPX fl26_3 rfl rfl) ?_
  refine RunT.ot0 (x := .lst (List.map eI r1.Kills)) rfl rfl rfl rfl (.loadP ty23 rfl rfl rfl) ?_
  obtain ⟨h4, H⟩ := gs H
  refine RunT.ot2 (x := .own 48 0 ((([] : List Int) ++ r1.Kills).length)) (p0 := (48, some (.arr false 1 (List.map eI (([] : List Int) ++ r1.Kills))))) (p1 := (40, none)) (n' := 56) rfl rfl rfl rfl (.appOn (d := false) (l := ([] : List Int)) (m := r1.Kills) (f := eI) rfl sl23 rfl rfl rfl (.lstm Try.underlying23 enc_I) rfl h4) rfl ?_
  refine RunT.ot0 (x := .v (.int .i64 (wr ((IntKind.u64.wrap a2).tmod (IntKind.u64.wrap (r1.Seats.length : Int)))))) rfl rfl rfl rfl (.moveX rfl) ?_
  refine RunT.ot1 (x := .own 56 0 (([wr ((IntKind.u64.wrap a2).tmod (IntKind.u64.wrap (r1.Seats.length : Int)))]).length)) (p0 := (56, some (.arr false 1 (List.map eI [wr ((IntKind.u64.wrap a2).tmod (IntKind.u64.wrap (r1.Seats.length : Int)))])))) (n' := 64) rfl rfl rfl rfl (.bslicem (d := false) (l := [wr ((IntKind.u64.wrap a2).tmod (IntKind.u64.wrap (r1.Seats.length : Int)))]) (f := eI) sl23 rfl rfl rfl enc_I rfl) rfl ?_
  obtain ⟨h5, H⟩ := gs H
  refine RunT.ot2 (x := .own 64 0 (((([] : List Int) ++ r1.Kills) ++ [wr ((IntKind.u64.wrap a2).tmod (IntKind.u64.wrap (r1.Seats.length : Int)))]).length)) (p0 := (64, some (.arr false 1 (List.map eI ((([] : List Int) ++ r1.Kills) ++ [wr ((IntKind.u64.wrap a2).tmod (IntKind.u64.wrap (r1.Seats.length : Int)))]))))) (p1 := (48, none)) (n' := 72) rfl rfl rfl rfl (.appOn (d := false) (l := ([] : List Int) ++ r1.Kills) (m := [wr ((IntKind.u64.wrap a2).tmod (IntKind.u64.wrap (r1.Seats.length : Int)))]) (f := eI) rfl sl23 rfl rfl rfl (.ownn Try.underlying23 rfl rfl (fun h => by cases h)) rfl h5) rfl ?_
  obtain ⟨r6, h7, H⟩ := bs H
  refine RunT.ot0 (x := .lst (List.map eI r6)) rfl rfl rfl rfl (.callp (PC.frozen (ref6_Rising_pc false k ((([] : List Int) ++ r1.Kills) ++ [wr ((IntKind.u64.wrap a2).tmod (IntKind.u64.wrap (r1.Seats.length : Int)))]) r6 h7)) rfl ⟨(.one (.all rfl (List.length_map _).symm)), trivial⟩ rfl rfl rfl) ?_
  refine RunT.ot0 (x := .ptr 24 3) rfl rfl rfl rfl (.fieldPX fl26_3 rfl rfl) ?_
  refine RunT.on1 (x := .junk) (p0 := (24, some (.box [.lst (List.map eSeat r1.Seats), .v (.int .i64 r1.Gap), .v (.int .i64 r1.Radius), .lst (List.map eI r6), .lst (List.map ePole r1.Poles)]))) (n' := 80) rfl rfl rfl (.storePX ty23 rfl rfl rfl rfl rfl rfl rfl) rfl ?_
  refine RunT.nil ?_
  refine T.seq ?_
  refine T.draw (wr := []) mixed rfl rfl ?_ rfl
  refine RunD.ot0 (x := .agg [.lst (List.map eSeat r1.Seats), .v (.int .i64 r1.Gap), .v (.int .i64 r1.Radius), .lst (List.map eI r1.Kills), .lst (List.map ePole r1.Poles)]) rfl rfl rfl rfl (.loadP ty26 rfl rfl rfl) rfl ?_
  refine RunD.ot0 (x := .agg [.v (.int .i64 a1.Size), .v (.int .i64 a1.Wheels)]) rfl rfl rfl rfl (.loadP ty66 rfl rfl rfl) rfl ?_
  obtain ⟨r12, h13, H⟩ := bs H
  refine RunD.ot0 (x := .lst (List.map eI r12)) rfl rfl rfl rfl (.callp (PC.frozen (place_All_pc false k r1 a1 r12 h13)) rfl ⟨(.agg' ⟨.lst, .v, .v, .lst, .lst, trivial⟩), (.agg' ⟨.v, .v, trivial⟩), trivial⟩ rfl rfl rfl) rfl ?_
  refine RunD.ot0 (x := .agg [.lst (List.map eSeat r1.Seats), .v (.int .i64 r1.Gap), .v (.int .i64 r1.Radius), .lst (List.map eI r6), .lst (List.map ePole r1.Poles)]) rfl rfl rfl rfl (.loadP ty26 rfl rfl rfl) rfl ?_
  refine RunD.ot0 (x := .agg [.v (.int .i64 a1.Size), .v (.int .i64 a1.Wheels)]) rfl rfl rfl rfl (.loadP ty66 rfl rfl rfl) rfl ?_
  obtain ⟨r14, h15, H⟩ := bs H
  refine RunD.ot0 (x := .lst (List.map eI r14)) rfl rfl rfl rfl (.callp (PC.frozen (place_All_pc false k (Venue.mk r1.Seats r1.Gap r1.Radius r6 r1.Poles) a1 r14 h15)) rfl ⟨(.agg' ⟨.lst, .v, .v, .lst, .lst, trivial⟩), (.agg' ⟨.v, .v, trivial⟩), trivial⟩ rfl rfl rfl) rfl ?_
  refine RunD.ot0 (x := .lst (List.map eI r12)) rfl rfl rfl rfl (.assignX rfl) rfl ?_
  refine RunD.ot0 (x := .lst (List.map eI r14)) rfl rfl rfl rfl (.assignX rfl) rfl ?_
  refine RunD.nil (by kernel_rfl) ⟨rfl, rfl, ?_⟩
  refine T.seq ?_
  refine T.sub (sub_pick [4, 8, 10, 11] [0] (st' := ⟨[(4, .ptr 0 0), (8, .v (.int .i64 (wr ((IntKind.u64.wrap a2).tmod (IntKind.u64.wrap (r1.Seats.length : Int)))))), (10, .lst (List.map eI r12)), (11, .lst (List.map eI r14))], [(0, some (.box [.v (.int .i64 a1.Size), .v (.int .i64 a1.Wheels)]))], 144, []⟩) rfl rfl rfl rfl rfl) ?_
  refine T.region ?_
  refine RunT.ot0 (x := .v (.int .i64 0)) rfl rfl rfl rfl (.assignX rfl) ?_
  refine RunT.nil ?_
  refine T.seq ?_
  refine T.seq ?_
  refine T.region ?_
  refine RunT.ot0 (x := .v (.int .i64 0)) rfl rfl rfl rfl (.assignX rfl) ?_
  refine RunT.nil ?_
  obtain ⟨o70, E71, HO72⟩ := bs H
  refine T.cutPE (fun v73 => o70 = .go v73) (fun v73 => ⟨[(11, .lst (List.map eI r14)), (12, .v (.int .i64 v73))], [], 8, []⟩) ?_ ?_
  · have H := E71
    refine T.block ?_
    refine T.loopS (fun n s => ∃ (v74 : Int) (v75 : Int), law11_PlaceKilled_l0 k a1 a2 r1 r12 r14 n v74 v75 = some o70 ∧ s = ⟨[(4, .ptr 0 0), (8, .v (.int .i64 (wr ((IntKind.u64.wrap a2).tmod (IntKind.u64.wrap (r1.Seats.length : Int)))))), (10, .lst (List.map eI r12)), (11, .lst (List.map eI r14)), (12, .v (.int .i64 v74)), (13, .v (.int .i64 v75))], [(0, some (.box [.v (.int .i64 a1.Size), .v (.int .i64 a1.Wheels)]))], 8, []⟩) k ⟨_, ⟨0, 0, H, rfl⟩, sub_to [some 0] (by decide) rfl rfl (⟨⟨_, rfl, .one (.ptr rfl)⟩, ⟨⟨_, rfl, .one .v⟩, ⟨⟨_, rfl, .one .lst⟩, ⟨⟨_, rfl, .one .lst⟩, ⟨⟨_, rfl, .one .v⟩, ⟨⟨_, rfl, .one .v⟩, trivial⟩⟩⟩⟩⟩⟩) (⟨⟨rfl, .inl ⟨_, _, rfl, rfl, .box ⟨.v, .v, trivial⟩⟩⟩, trivial⟩)⟩ ?_
    rintro n s ⟨v74, v75, H, rfl⟩
    rcases n with _ | n
    · cases (show none = some _ from H)
    rw [law11_PlaceKilled_l0] at H
    refine T.seq ?_
    refine T.seq ?_
    refine T.region ?_
    refine RunT.ot0 (x := .v (.int .i64 v75)) rfl rfl rfl rfl (.moveX rfl) ?_
    refine RunT.ot0 (x := .lst (List.map eI r12)) rfl rfl rfl rfl (.moveX rfl) ?_
    refine RunT.ot0 (x := .v (.int .i64 (r12.length : Int))) rfl rfl rfl rfl (.lenLm Try.underlying23 rfl rfl) ?_
    refine RunT.ot0 (x := .v (.bool (decide (v75 < (r12.length : Int))))) rfl rfl rfl rfl (.bin rfl rfl (fun w => b_lss w) rfl) ?_
    refine RunT.nil ?_
    refine T.cond2 (t := decide (v75 < (r12.length : Int))) rfl (fun c76 => ?_) (fun c76 => ?_)
    · replace H := ct H c76
      refine T.skip ?_
      refine T.seq ?_
      refine T.block ?_
      obtain ⟨o82, E83, HO84⟩ := bs H
      refine T.cut (⟨[(4, .ptr 0 0), (8, .v (.int .i64 (wr ((IntKind.u64.wrap a2).tmod (IntKind.u64.wrap (r1.Seats.length : Int)))))), (10, .lst (List.map eI r12)), (11, .lst (List.map eI r14)), (12, .v (.int .i64 v74)), (13, .v (.int .i64 v75)), (14, .v (.bool o82))], [(0, some (.box [.v (.int .i64 a1.Size), .v (.int .i64 a1.Wheels)]))], 8, []⟩) ?_ ?_
      · have H := E83
        refine T.sub (sub_pick [4, 8, 10, 11, 12, 13] [0] (st' := ⟨[(4, .ptr 0 0), (8, .v (.int .i64 (wr ((IntKind.u64.wrap a2).tmod (IntKind.u64.wrap (r1.Seats.length : Int)))))), (10, .lst (List.map eI r12)), (11, .lst (List.map eI r14)), (12, .v (.int .i64 v74)), (13, .v (.int .i64 v75))], [(0, some (.box [.v (.int .i64 a1.Size), .v (.int .i64 a1.Wheels)]))], 8, []⟩) rfl rfl rfl rfl rfl) ?_
        refine T.draw (wr := []) mixed rfl rfl ?_ rfl
        refine RunD.ot0 (x := .v (.int .i64 v74)) rfl rfl rfl rfl (.moveX rfl) rfl ?_
        refine RunD.ot0 (x := .lst (List.map eI r14)) rfl rfl rfl rfl (.moveX rfl) rfl ?_
        refine RunD.ot0 (x := .v (.int .i64 (r14.length : Int))) rfl rfl rfl rfl (.lenLm Try.underlying23 rfl rfl) rfl ?_
        refine RunD.ot0 (x := .v (.bool (decide (v74 < (r14.length : Int))))) rfl rfl rfl rfl (.bin rfl rfl (fun w => b_lss w) rfl) rfl ?_
        refine RunD.ot0 (x := .v (.bool (decide (v74 < (r14.length : Int))))) rfl rfl rfl rfl (.moveX rfl) rfl ?_
        refine RunD.cases (t := 51) (c := decide (v74 < (r14.length : Int))) rfl (fun g90 => ?_) (fun g90 => ?_)
        · replace H := ct H g90
          refine RunD.gt0 (x := .lst (List.map eI r14)) rfl rfl rfl (bo g90) rfl rfl (.moveX rfl) rfl ?_
          refine RunD.gt0 (x := .v (.int .i64 v74)) rfl rfl rfl (bo g90) rfl rfl (.moveX rfl) rfl ?_
          obtain ⟨y91, h92, H⟩ := bs H
          refine RunD.gt0 (x := .rptr [.v (.int .i64 y91)]) rfl rfl rfl (bo g90) rfl rfl (.idxLX h92 enc_I sl23 rfl rfl rfl) rfl ?_
          refine RunD.gt0 (x := .v (.int .i64 y91)) rfl rfl rfl (bo g90) rfl rfl (.loadR ty3 rfl rfl) rfl ?_
          refine RunD.gt0 (x := .lst (List.map eI r12)) rfl rfl rfl (bo g90) rfl rfl (.moveX rfl) rfl ?_
          refine RunD.gt0 (x := .v (.int .i64 v75)) rfl rfl rfl (bo g90) rfl rfl (.moveX rfl) rfl ?_
          obtain ⟨y93, h94, H⟩ := bs H
          refine RunD.gt0 (x := .rptr [.v (.int .i64 y93)]) rfl rfl rfl (bo g90) rfl rfl (.idxLX h94 enc_I sl23 rfl rfl rfl) rfl ?_
          refine RunD.gt0 (x := .v (.int .i64 y93)) rfl rfl rfl (bo g90) rfl rfl (.loadR ty3 rfl rfl) rfl ?_
          refine RunD.gt0 (x := .v (.bool (decide (y91 = y93)))) rfl rfl rfl (bo g90) rfl rfl (.bin rfl rfl (fun w => b_eql w) rfl) rfl ?_
          refine RunD.ot0 (x := .v (.bool (decide (y91 = y93)))) rfl rfl rfl rfl (.pickT (bo g90) rfl) rfl ?_
          refine RunD.ot0 (x := .v (.bool (decide (y91 = y93)))) rfl rfl rfl rfl (.assignX rfl) rfl ?_
          refine RunD.nil (by kernel_rfl) ⟨rfl, rfl, ?_⟩
          obtain rfl := si H
          exact (sub_to [some 0] (by decide) rfl rfl (⟨⟨_, rfl, .one (.ptr rfl)⟩, ⟨⟨_, rfl, .one .v⟩, ⟨⟨_, rfl, .one .lst⟩, ⟨⟨_, rfl, .one .lst⟩, ⟨⟨_, rfl, .one .v⟩, ⟨⟨_, rfl, .one .v⟩, ⟨⟨_, rfl, .one .v⟩, trivial⟩⟩⟩⟩⟩⟩⟩) (⟨⟨rfl, .inl ⟨_, _, rfl, rfl, .box ⟨.v, .v, trivial⟩⟩⟩, trivial⟩))
        · replace H := cf H g90
          refine RunD.xn rfl rfl rfl (bo g90) rfl rfl ?_
          refine RunD.xn rfl rfl rfl (bo g90) rfl rfl ?_
          refine RunD.xn rfl rfl rfl (bo g90) rfl rfl ?_
          refine RunD.xn rfl rfl rfl (bo g90) rfl rfl ?_
          refine RunD.xn rfl rfl rfl (bo g90) rfl rfl ?_
          refine RunD.xn rfl rfl rfl (bo g90) rfl rfl ?_
          refine RunD.xn rfl rfl rfl (bo g90) rfl rfl ?_
          refine RunD.xn rfl rfl rfl (bo g90) rfl rfl ?_
          refine RunD.xn rfl rfl rfl (bo g90) rfl rfl ?_
          refine RunD.ot0 (x := .v (.bool false)) rfl rfl rfl rfl (.pickF (bo g90) rfl) rfl ?_
          refine RunD.ot0 (x := .v (.bool false)) rfl rfl rfl rfl (.assignX rfl) rfl ?_
          refine RunD.nil (by kernel_rfl) ⟨rfl, rfl, ?_⟩
          obtain rfl := si H
          exact (sub_to [some 0] (by decide) rfl rfl (⟨⟨_, rfl, .one (.ptr rfl)⟩, ⟨⟨_, rfl, .one .v⟩, ⟨⟨_, rfl, .one .lst⟩, ⟨⟨_, rfl, .one .lst⟩, ⟨⟨_, rfl, .one .v⟩, ⟨⟨_, rfl, .one .v⟩, ⟨⟨_, rfl, .one .v⟩, trivial⟩⟩⟩⟩⟩⟩⟩) (⟨⟨rfl, .inl ⟨_, _, rfl, rfl, .box ⟨.v, .v, trivial⟩⟩⟩, trivial⟩))
      · have H := HO84
        refine T.seq ?_
        refine T.seq ?_
        refine T.sub (sub_pick [4, 8, 10, 11, 12, 13, 14] [0] (st' := ⟨[(4, .ptr 0 0), (8, .v (.int .i64 (wr ((IntKind.u64.wrap a2).tmod (IntKind.u64.wrap (r1.Seats.length : Int)))))), (10, .lst (List.map eI r12)), (11, .lst (List.map eI r14)), (12, .v (.int .i64 v74)), (13, .v (.int .i64 v75)), (14, .v (.bool o82))], [(0, some (.box [.v (.int .i64 a1.Size), .v (.int .i64 a1.Wheels)]))], 8, []⟩) rfl rfl rfl rfl rfl) ?_
        refine T.region ?_
        refine RunT.ot0 (x := .v (.bool o82)) rfl rfl rfl rfl (.moveX rfl) ?_
        refine RunT.nil ?_
        obtain ⟨o96, E97, HO98⟩ := bs H
        refine T.cutE (⟨[(4, .ptr 0 0), (8, .v (.int .i64 (wr ((IntKind.u64.wrap a2).tmod (IntKind.u64.wrap (r1.Seats.length : Int)))))), (10, .lst (List.map eI r12)), (11, .lst (List.map eI r14)), (12, .v (.int .i64 o96)), (13, .v (.int .i64 v75)), (14, .v (.bool o82))], [(0, some (.box [.v (.int .i64 a1.Size), .v (.int .i64 a1.Wheels)]))], 8, []⟩) ?_ ?_
        · have H := E97
          refine T.cond2 (t := o82) rfl (fun c99 => ?_) (fun c99 => ?_)
          · replace H := ct H c99
            refine T.region ?_
            refine RunT.ot0 (x := .v (.int .i64 v74)) rfl rfl rfl rfl (.moveX rfl) ?_
            refine RunT.ot0 (x := .v (.int .i64 (wr (v74 + 1)))) rfl rfl rfl rfl (.bin rfl rfl (fun w => b_addw w) rfl) ?_
            refine RunT.ot0 (x := .v (.int .i64 (wr (v74 + 1)))) rfl rfl rfl rfl (.assignX rfl) ?_
            refine RunT.nil ?_
            obtain rfl := si H
            exact (sub_to [some 0] (by decide) rfl rfl (⟨⟨_, rfl, .one (.ptr rfl)⟩, ⟨⟨_, rfl, .one .v⟩, ⟨⟨_, rfl, .one .lst⟩, ⟨⟨_, rfl, .one .lst⟩, ⟨⟨_, rfl, .one .v⟩, ⟨⟨_, rfl, .one .v⟩, ⟨⟨_, rfl, .one .v⟩, trivial⟩⟩⟩⟩⟩⟩⟩) (⟨⟨rfl, .inl ⟨_, _, rfl, rfl, .box ⟨.v, .v, trivial⟩⟩⟩, trivial⟩))
          · replace H := cf H c99
            refine T.skip ?_
            obtain rfl := si H
            exact (sub_to [some 0] (by decide) rfl rfl (⟨⟨_, rfl, .one (.ptr rfl)⟩, ⟨⟨_, rfl, .one .v⟩, ⟨⟨_, rfl, .one .lst⟩, ⟨⟨_, rfl, .one .lst⟩, ⟨⟨_, rfl, .one .v⟩, ⟨⟨_, rfl, .one .v⟩, ⟨⟨_, rfl, .one .v⟩, trivial⟩⟩⟩⟩⟩⟩⟩) (⟨⟨rfl, .inl ⟨_, _, rfl, rfl, .box ⟨.v, .v, trivial⟩⟩⟩, trivial⟩))
        · intro s hS
          have H := HO98
          refine T.sub hS ?_
          refine T.seq ?_
          refine T.draw (wr := []) mixed rfl rfl ?_ rfl
          refine RunD.ot0 (x := .v (.bool o82)) rfl rfl rfl rfl (.moveX rfl) rfl ?_
          refine RunD.ot0 (x := .lst (List.map eI r12)) rfl rfl rfl rfl (.moveX rfl) rfl ?_
          refine RunD.ot0 (x := .v (.int .i64 v75)) rfl rfl rfl rfl (.moveX rfl) rfl ?_
          obtain ⟨y105, h106, H⟩ := bs H
          refine RunD.ot0 (x := .rptr [.v (.int .i64 y105)]) rfl rfl rfl rfl (.idxLX h106 enc_I sl23 rfl rfl rfl) rfl ?_
          refine RunD.ot0 (x := .v (.int .i64 y105)) rfl rfl rfl rfl (.loadR ty3 rfl rfl) rfl ?_
          refine RunD.ot0 (x := .v (.int .i64 (wr ((IntKind.u64.wrap a2).tmod (IntKind.u64.wrap (r1.Seats.length : Int)))))) rfl rfl rfl rfl (.moveX rfl) rfl ?_
          refine RunD.ot0 (x := .v (.bool (decide (y105 ≤ (wr ((IntKind.u64.wrap a2).tmod (IntKind.u64.wrap (r1.Seats.length : Int)))))))) rfl rfl rfl rfl (.bin rfl rfl (fun w => b_leq w) rfl) rfl ?_
          refine RunD.ot0 (x := .v (.bool (decide (y105 ≤ (wr ((IntKind.u64.wrap a2).tmod (IntKind.u64.wrap (r1.Seats.length : Int)))))))) rfl rfl rfl rfl (.moveX rfl) rfl ?_
          refine RunD.cases (t := 72) (c := decide (y105 ≤ (wr ((IntKind.u64.wrap a2).tmod (IntKind.u64.wrap (r1.Seats.length : Int)))))) rfl (fun g107 => ?_) (fun g107 => ?_)
          · replace H := ct H g107
            refine RunD.gt0 (x := .v (.int .i64 (wr ((IntKind.u64.wrap a2).tmod (IntKind.u64.wrap (r1.Seats.length : Int)))))) rfl rfl rfl (bo g107) rfl rfl (.moveX rfl) rfl ?_
            refine RunD.gt0 (x := .lst (List.map eI r12)) rfl rfl rfl (bo g107) rfl rfl (.moveX rfl) rfl ?_
            refine RunD.gt0 (x := .v (.int .i64 v75)) rfl rfl rfl (bo g107) rfl rfl (.moveX rfl) rfl ?_
            obtain ⟨y108, h109, H⟩ := bs H
            refine RunD.gt0 (x := .rptr [.v (.int .i64 y108)]) rfl rfl rfl (bo g107) rfl rfl (.idxLX h109 enc_I sl23 rfl rfl rfl) rfl ?_
            refine RunD.gt0 (x := .v (.int .i64 y108)) rfl rfl rfl (bo g107) rfl rfl (.loadR ty3 rfl rfl) rfl ?_
            refine RunD.gt0 (x := .ptr 0 0) rfl rfl rfl (bo g107) rfl rfl (.fieldPX fl66_0 rfl rfl) rfl ?_
            refine RunD.gt0 (x := .v (.int .i64 a1.Size)) rfl rfl rfl (bo g107) rfl rfl (.loadP ty3 rfl rfl rfl) rfl ?_
            refine RunD.gt0 (x := .v (.int .i64 (wr (y108 + a1.Size)))) rfl rfl rfl (bo g107) rfl rfl (.bin rfl rfl (fun w => b_addw w) rfl) rfl ?_
            refine RunD.gt0 (x := .v (.bool (decide ((wr ((IntKind.u64.wrap a2).tmod (IntKind.u64.wrap (r1.Seats.length : Int)))) < (wr (y108 + a1.Size)))))) rfl rfl rfl (bo g107) rfl rfl (.bin rfl rfl (fun w => b_lss w) rfl) rfl ?_
            refine RunD.ot0 (x := .v (.bool (decide ((wr ((IntKind.u64.wrap a2).tmod (IntKind.u64.wrap (r1.Seats.length : Int)))) < (wr (y108 + a1.Size)))))) rfl rfl rfl rfl (.pickT (bo g107) rfl) rfl ?_
            refine RunD.ot0 (x := .v (.bool (o82 == (decide ((wr ((IntKind.u64.wrap a2).tmod (IntKind.u64.wrap (r1.Seats.length : Int)))) < (wr (y108 + a1.Size))))))) rfl rfl rfl rfl (.bin rfl rfl (fun w => b_eqB w Try.underlying4) rfl) rfl ?_
            refine RunD.nil (by kernel_rfl) ⟨rfl, rfl, ?_⟩
            refine T.cond2 (t := o82 == (decide ((wr ((IntKind.u64.wrap a2).tmod (IntKind.u64.wrap (r1.Seats.length : Int)))) < (wr (y108 + a1.Size))))) rfl (fun c110 => ?_) (fun c110 => ?_)
            · replace H := ct H c110
              refine T.seq ?_
              refine T.sub (sub_pick [] [] (st' := ⟨[], [], 160, []⟩) rfl rfl rfl rfl rfl) ?_
              refine T.region ?_
              refine RunT.ot0 (x := .v (.bool false)) rfl rfl rfl rfl (.assignX rfl) ?_
              refine RunT.nil ?_
              obtain rfl := si H
              have HX := exr HO72
              obtain rfl := si HX
              refine T.sub (sub_to (st' := ⟨[(6, .v (.bool false))], [], 8, []⟩) [] (by decide) rfl rfl (⟨⟨_, rfl, .one .v⟩, trivial⟩) (trivial)) ?_
              refine T.ret ?_
              exact RetOk.same [.v (.bool false)] ⟨rfl, trivial⟩ rfl rfl rfl
            · replace H := cf H c110
              refine T.skip ?_
              refine T.region ?_
              refine RunT.ot0 (x := .v (.int .i64 v75)) rfl rfl rfl rfl (.moveX rfl) ?_
              refine RunT.ot0 (x := .v (.int .i64 (wr (v75 + 1)))) rfl rfl rfl rfl (.bin rfl rfl (fun w => b_addw w) rfl) ?_
              refine RunT.ot0 (x := .v (.int .i64 (wr (v75 + 1)))) rfl rfl rfl rfl (.assignX rfl) ?_
              refine RunT.nil ?_
              exact ⟨n, Nat.lt_succ_self n, _, ⟨o96, wr (v75 + 1), H, rfl⟩, (sub_to [some 0] (by decide) rfl rfl (⟨⟨_, rfl, .one (.ptr rfl)⟩, ⟨⟨_, rfl, .one .v⟩, ⟨⟨_, rfl, .one .lst⟩, ⟨⟨_, rfl, .one .lst⟩, ⟨⟨_, rfl, .one .v⟩, ⟨⟨_, rfl, .one .v⟩, trivial⟩⟩⟩⟩⟩⟩) (⟨⟨rfl, .inl ⟨_, _, rfl, rfl, .box ⟨.v, .v, trivial⟩⟩⟩, trivial⟩))⟩
          · replace H := cf H g107
            refine RunD.xn rfl rfl rfl (bo g107) rfl rfl ?_
            refine RunD.xn rfl rfl rfl (bo g107) rfl rfl ?_
            refine RunD.xn rfl rfl rfl (bo g107) rfl rfl ?_
            refine RunD.xn rfl rfl rfl (bo g107) rfl rfl ?_
            refine RunD.xn rfl rfl rfl (bo g107) rfl rfl ?_
            refine RunD.xn rfl rfl rfl (bo g107) rfl rfl ?_
            refine RunD.xn rfl rfl rfl (bo g107) rfl rfl ?_
            refine RunD.xn rfl rfl rfl (bo g107) rfl rfl ?_
            refine RunD.xn rfl rfl rfl (bo g107) rfl rfl ?_
            refine RunD.ot0 (x := .v (.bool false)) rfl rfl rfl rfl (.pickF (bo g107) rfl) rfl ?_
            refine RunD.ot0 (x := .v (.bool (o82 == false))) rfl rfl rfl rfl (.bin rfl rfl (fun w => b_eqB w Try.underlying4) rfl) rfl ?_
            refine RunD.nil (by kernel_rfl) ⟨rfl, rfl, ?_⟩
            refine T.cond2 (t := o82 == false) rfl (fun c111 => ?_) (fun c111 => ?_)
            · replace H := ct H c111
              refine T.seq ?_
              refine T.sub (sub_pick [] [] (st' := ⟨[], [], 160, []⟩) rfl rfl rfl rfl rfl) ?_
              refine T.region ?_
              refine RunT.ot0 (x := .v (.bool false)) rfl rfl rfl rfl (.assignX rfl) ?_
              refine RunT.nil ?_
              obtain rfl := si H
              have HX := exr HO72
              obtain rfl := si HX
              refine T.sub (sub_to (st' := ⟨[(6, .v (.bool false))], [], 8, []⟩) [] (by decide) rfl rfl (⟨⟨_, rfl, .one .v⟩, trivial⟩) (trivial)) ?_
              refine T.ret ?_
              exact RetOk.same [.v (.bool false)] ⟨rfl, trivial⟩ rfl rfl rfl
            · replace H := cf H c111
              refine T.skip ?_
              refine T.region ?_
              refine RunT.ot0 (x := .v (.int .i64 v75)) rfl rfl rfl rfl (.moveX rfl) ?_
              refine RunT.ot0 (x := .v (.int .i64 (wr (v75 + 1)))) rfl rfl rfl rfl (.bin rfl rfl (fun w => b_addw w) rfl) ?_
              refine RunT.ot0 (x := .v (.int .i64 (wr (v75 + 1)))) rfl rfl rfl rfl (.assignX rfl) ?_
              refine RunT.nil ?_
              exact ⟨n, Nat.lt_succ_self n, _, ⟨o96, wr (v75 + 1), H, rfl⟩, (sub_to [some 0] (by decide) rfl rfl (⟨⟨_, rfl, .one (.ptr rfl)⟩, ⟨⟨_, rfl, .one .v⟩, ⟨⟨_, rfl, .one .lst⟩, ⟨⟨_, rfl, .one .lst⟩, ⟨⟨_, rfl, .one .v⟩, ⟨⟨_, rfl, .one .v⟩, trivial⟩⟩⟩⟩⟩⟩) (⟨⟨rfl, .inl ⟨_, _, rfl, rfl, .box ⟨.v, .v, trivial⟩⟩⟩, trivial⟩))⟩
    · replace H := cf H c76
      refine T.exit ?_
      obtain rfl := si H
      exact ⟨_, rfl, (sub_to [] (by decide) rfl rfl (⟨⟨_, rfl, .one .lst⟩, ⟨⟨_, rfl, .one .v⟩, trivial⟩⟩) (trivial))⟩
  · intro v73 s hR hS
    subst hR
    have H := exg HO72
    refine T.sub hS ?_
    refine T.seq ?_
    refine T.region ?_
    obtain ⟨r112, h113, H⟩ := bs H
    refine RunT.ot0 (x := .v (.bool r112)) rfl rfl rfl rfl (.callp (law11_told_pc false k  r112 h113) rfl trivial rfl rfl rfl) ?_
    refine RunT.ot0 (x := .v (.bool r112)) rfl rfl rfl rfl (.moveX rfl) ?_
    refine RunT.cases (t := 85) (c := r112) rfl (fun g114 => ?_) (fun g114 => ?_)
    · replace H := ct H g114
      refine RunT.gt0 (x := .v (.int .i64 v73)) rfl rfl rfl (bo g114) rfl rfl (.moveX rfl) ?_
      refine RunT.gt0 (x := .lst (List.map eI r14)) rfl rfl rfl (bo g114) rfl rfl (.moveX rfl) ?_
      refine RunT.gt0 (x := .v (.int .i64 (r14.length : Int))) rfl rfl rfl (bo g114) rfl rfl (.lenLm Try.underlying23 rfl rfl) ?_
      refine RunT.gt0 (x := .v (.bool (decide (v73 = (r14.length : Int))))) rfl rfl rfl (bo g114) rfl rfl (.bin rfl rfl (fun w => b_eql w) rfl) ?_
      refine RunT.ot0 (x := .v (.bool (decide (v73 = (r14.length : Int))))) rfl rfl rfl rfl (.pickT (bo g114) rfl) ?_
      refine RunT.ot0 (x := .v (.bool (decide (v73 = (r14.length : Int))))) rfl rfl rfl rfl (.assignX rfl) ?_
      refine RunT.nil ?_
      obtain rfl := si H
      refine T.sub (sub_to (st' := ⟨[(6, .v (.bool (decide (v73 = (r14.length : Int)))))], [], 8, []⟩) [] (by decide) rfl rfl (⟨⟨_, rfl, .one .v⟩, trivial⟩) (trivial)) ?_
      refine T.ret ?_
      exact RetOk.same [.v (.bool (decide (v73 = (r14.length : Int))))] ⟨rfl, trivial⟩ rfl rfl rfl
    · replace H := cf H g114
      refine RunT.xn rfl rfl rfl (bo g114) rfl rfl ?_
      refine RunT.xn rfl rfl rfl (bo g114) rfl rfl ?_
      refine RunT.xn rfl rfl rfl (bo g114) rfl rfl ?_
      refine RunT.xn rfl rfl rfl (bo g114) rfl rfl ?_
      refine RunT.ot0 (x := .v (.bool false)) rfl rfl rfl rfl (.pickF (bo g114) rfl) ?_
      refine RunT.ot0 (x := .v (.bool false)) rfl rfl rfl rfl (.assignX rfl) ?_
      refine RunT.nil ?_
      obtain rfl := si H
      refine T.sub (sub_to (st' := ⟨[(6, .v (.bool false))], [], 8, []⟩) [] (by decide) rfl rfl (⟨⟨_, rfl, .one .v⟩, trivial⟩) (trivial)) ?_
      refine T.ret ?_
      exact RetOk.same [.v (.bool false)] ⟨rfl, trivial⟩ rfl rfl rfl
end Go.Proofs.Ytlfpkjlaajfjnaa
