/- The Go functions come to just what their plain forms come to: one contract each. -/
import Derived.Test.YtlfpkjlaajfjnaaYPlaceApart2
set_option linter.unusedVariables false
set_option linter.unusedSimpArgs false
set_option maxRecDepth 100000
namespace Go.Proofs.Ytlfpkjlaajfjnaa
open Go Go.Sh Go.Px
attribute [local irreducible] Go.Sh.T Go.Sh.RunT Go.Sh.RunD
set_option maxHeartbeats 4000000 in
theorem law11_PlaceApart_pc (al : Bool) (k : Nat) (a0 : (List Int)) (a1 : Party) (a2 : Party) (a3 : Int) (a4 : Int) (o : Bool) (H : law11_PlaceApart k a0 a1 a2 a3 a4 = some o) : PC Try.prog al 17 [.lst (List.map eI a0), .agg [.v (.int .i64 a1.Size), .v (.int .i64 a1.Wheels)], .agg [.v (.int .i64 a2.Size), .v (.int .i64 a2.Wheels)], .v (.int .i64 a3), .v (.int .i64 a4)] (.v (.bool o)) := by
  unfold law11_PlaceApart at H
  refine PC.of_T Try.func17 rfl rfl (n := 115) rfl rfl (.inr rfl) ?_
  intro base B w0
  refine T.st (st' := ⟨[(0, .lst (List.map eI a0)), (1, .agg [.v (.int .i64 a1.Size), .v (.int .i64 a1.Wheels)]), (2, .agg [.v (.int .i64 a2.Size), .v (.int .i64 a2.Wheels)]), (3, .v (.int .i64 a3)), (4, .v (.int .i64 a4))], [], 0, []⟩) rfl ?_
  refine T.seq ?_
  refine T.region ?_
  refine RunT.ot1 (x := .ptr 0 0) (p0 := (0, some (.box [.v (.int .i64 a1.Size), .v (.int .i64 a1.Wheels)]))) (n' := 8) rfl rfl rfl rfl (.boxX rfl rfl rfl) rfl ?_
  refine RunT.ot1 (x := .ptr 8 0) (p0 := (8, some (.box [.v (.int .i64 a2.Size), .v (.int .i64 a2.Wheels)]))) (n' := 16) rfl rfl rfl rfl (.boxX rfl rfl rfl) rfl ?_
  refine RunT.ot0 (x := .v (.bool false)) rfl rfl rfl rfl (.assignX rfl) ?_
  refine RunT.nil ?_
  refine T.seq ?_
  refine T.region ?_
  refine RunT.ot0 (x := .lst (List.map eI a0)) rfl rfl rfl rfl (.moveX rfl) ?_
  obtain ⟨r1, h2, H⟩ := bs H
  refine RunT.ot0 (x := .agg [.lst (List.map eSeat r1.Seats), .v (.int .i64 r1.Gap), .v (.int .i64 r1.Radius), .lst (List.map eI r1.Kills), .lst (List.map ePole r1.Poles)]) rfl rfl rfl rfl (.callp (PC.frozen (law3_Make_pc false k a0 25 r1 h2)) rfl ⟨(.one .lst), (.one .v), trivial⟩ rfl rfl rfl) ?_
  refine RunT.ot1 (x := .ptr 16 0) (p0 := (16, some (.box [.v (.slice none 0 0), .v (.int .i64 0), .v (.int .i64 0), .v (.slice none 0 0), .v (.slice none 0 0)]))) (n' := 24) rfl rfl rfl rfl (.allocX in26.zero rfl rfl) rfl ?_
  refine RunT.on1 (x := .junk) (p0 := (16, some (.box [.lst (List.map eSeat r1.Seats), .v (.int .i64 r1.Gap), .v (.int .i64 r1.Radius), .lst (List.map eI r1.Kills), .lst (List.map ePole r1.Poles)]))) (n' := 32) rfl rfl rfl (.storePX ty26 rfl rfl rfl rfl rfl rfl rfl) rfl ?_
  refine RunT.nil ?_
  refine T.seq ?_
  refine T.draw (wr := []) mixed rfl rfl ?_ rfl
  refine RunD.ot0 (x := .v (.int .i64 a3)) rfl rfl rfl rfl (.moveX rfl) rfl ?_
  refine RunD.ot0 (x := .v (.int .u64 (IntKind.u64.wrap a3))) rfl rfl rfl rfl (.conv rfl (fun w => c_int w ⟨_, Try.underlying3⟩ Try.underlying41) rfl) rfl ?_
  refine RunD.ot0 (x := .ptr 16 0) rfl rfl rfl rfl (.fieldPX fl26_0 rfl rfl) rfl ?_
  refine RunD.ot0 (x := .lst (List.map eSeat r1.Seats)) rfl rfl rfl rfl (.loadP ty22 rfl rfl rfl) rfl ?_
  refine RunD.ot0 (x := .v (.int .i64 (r1.Seats.length : Int))) rfl rfl rfl rfl (.lenLm Try.underlying22 rfl rfl) rfl ?_
  refine RunD.ot0 (x := .v (.int .u64 (IntKind.u64.wrap (r1.Seats.length : Int)))) rfl rfl rfl rfl (.conv rfl (fun w => c_int w ⟨_, Try.underlying3⟩ Try.underlying41) rfl) rfl ?_
  obtain ⟨h5, H⟩ := gs H
  refine RunD.ot0 (x := .v (.int .u64 ((IntKind.u64.wrap a3).tmod (IntKind.u64.wrap (r1.Seats.length : Int))))) rfl rfl rfl rfl (.bin rfl rfl (fun w => b_rem w (of_decide_eq_true h5)) rfl) rfl ?_
  refine RunD.ot0 (x := .v (.int .i64 (wr ((IntKind.u64.wrap a3).tmod (IntKind.u64.wrap (r1.Seats.length : Int)))))) rfl rfl rfl rfl (.conv rfl (fun w => c_intw w ⟨_, Try.underlying41⟩ Try.underlying3) rfl) rfl ?_
  refine RunD.ot0 (x := .v (.int .i64 a4)) rfl rfl rfl rfl (.moveX rfl) rfl ?_
  refine RunD.ot0 (x := .v (.int .u64 (IntKind.u64.wrap a4))) rfl rfl rfl rfl (.conv rfl (fun w => c_int w ⟨_, Try.underlying3⟩ Try.underlying41) rfl) rfl ?_
  refine RunD.ot0 (x := .ptr 16 0) rfl rfl rfl rfl (.fieldPX fl26_0 rfl rfl) rfl ?_
  refine RunD.ot0 (x := .lst (List.map eSeat r1.Seats)) rfl rfl rfl rfl (.loadP ty22 rfl rfl rfl) rfl ?_
  refine RunD.ot0 (x := .v (.int .i64 (r1.Seats.length : Int))) rfl rfl rfl rfl (.lenLm Try.underlying22 rfl rfl) rfl ?_
  refine RunD.ot0 (x := .v (.int .u64 (IntKind.u64.wrap (r1.Seats.length : Int)))) rfl rfl rfl rfl (.conv rfl (fun w => c_int w ⟨_, Try.underlying3⟩ Try.underlying41) rfl) rfl ?_
  obtain ⟨h6, H⟩ := gs H
  refine RunD.ot0 (x := .v (.int .u64 ((IntKind.u64.wrap a4).tmod (IntKind.u64.wrap (r1.Seats.length : Int))))) rfl rfl rfl rfl (.bin rfl rfl (fun w => b_rem w (of_decide_eq_true h6)) rfl) rfl ?_
  refine RunD.ot0 (x := .v (.int .i64 (wr ((IntKind.u64.wrap a4).tmod (IntKind.u64.wrap (r1.Seats.length : Int)))))) rfl rfl rfl rfl (.conv rfl (fun w => c_intw w ⟨_, Try.underlying41⟩ Try.underlying3) rfl) rfl ?_
  refine RunD.ot0 (x := .v (.int .i64 (wr ((IntKind.u64.wrap a3).tmod (IntKind.u64.wrap (r1.Seats.length : Int)))))) rfl rfl rfl rfl (.assignX rfl) rfl ?_
  refine RunD.ot0 (x := .v (.int .i64 (wr ((IntKind.u64.wrap a4).tmod (IntKind.u64.wrap (r1.Seats.length : Int)))))) rfl rfl rfl rfl (.assignX rfl) rfl ?_
  refine RunD.nil (by kernel_rfl) ⟨rfl, rfl, ?_⟩
  refine T.seq ?_
  refine T.sub (sub_pick [6, 7, 11, 12, 13] [0, 8, 16] (st' := ⟨[(6, .ptr 0 0), (7, .ptr 8 0), (11, .ptr 16 0), (12, .v (.int .i64 (wr ((IntKind.u64.wrap a3).tmod (IntKind.u64.wrap (r1.Seats.length : Int)))))), (13, .v (.int .i64 (wr ((IntKind.u64.wrap a4).tmod (IntKind.u64.wrap (r1.Seats.length : Int))))))], [(0, some (.box [.v (.int .i64 a1.Size), .v (.int .i64 a1.Wheels)])), (8, some (.box [.v (.int .i64 a2.Size), .v (.int .i64 a2.Wheels)])), (16, some (.box [.lst (List.map eSeat r1.Seats), .v (.int .i64 r1.Gap), .v (.int .i64 r1.Radius), .lst (List.map eI r1.Kills), .lst (List.map ePole r1.Poles)]))], 176, []⟩) rfl rfl rfl rfl rfl) ?_
  refine T.region ?_
  refine RunT.ot0 (x := .agg [.lst (List.map eSeat r1.Seats), .v (.int .i64 r1.Gap), .v (.int .i64 r1.Radius), .lst (List.map eI r1.Kills), .lst (List.map ePole r1.Poles)]) rfl rfl rfl rfl (.loadP ty26 rfl rfl rfl) ?_
  refine RunT.ot0 (x := .agg [.v (.int .i64 a1.Size), .v (.int .i64 a1.Wheels)]) rfl rfl rfl rfl (.loadP ty66 rfl rfl rfl) ?_
  refine RunT.ot0 (x := .v (.int .i64 (wr ((IntKind.u64.wrap a3).tmod (IntKind.u64.wrap (r1.Seats.length : Int)))))) rfl rfl rfl rfl (.moveX rfl) ?_
  obtain ⟨r7, h8, H⟩ := bs H
  refine RunT.ot0 (x := .tup [.lst (List.map eI r7.1), .v (.bool r7.2)]) rfl rfl rfl rfl (.callp (PC.frozen (place_Seats_pc false k r1 a1 (wr ((IntKind.u64.wrap a3).tmod (IntKind.u64.wrap (r1.Seats.length : Int)))) r7 h8)) rfl ⟨(.agg' ⟨.lst, .v, .v, .lst, .lst, trivial⟩), (.agg' ⟨.v, .v, trivial⟩), (.one .v), trivial⟩ rfl rfl rfl) ?_
  refine RunT.ot0 (x := .tup [.lst (List.map eI r7.1), .v (.bool r7.2)]) rfl rfl rfl rfl (.moveX rfl) ?_
  refine RunT.ot0 (x := .lst (List.map eI r7.1)) rfl rfl rfl rfl (.extract rfl rfl) ?_
  refine RunT.ot0 (x := .v (.bool r7.2)) rfl rfl rfl rfl (.extract rfl rfl) ?_
  refine RunT.ot0 (x := .lst (List.map eI r7.1)) rfl rfl rfl rfl (.assignX rfl) ?_
  refine RunT.ot0 (x := .v (.bool r7.2)) rfl rfl rfl rfl (.assignX rfl) ?_
  refine RunT.nil ?_
  refine T.seq ?_
  refine T.region ?_
  refine RunT.ot0 (x := .agg [.lst (List.map eSeat r1.Seats), .v (.int .i64 r1.Gap), .v (.int .i64 r1.Radius), .lst (List.map eI r1.Kills), .lst (List.map ePole r1.Poles)]) rfl rfl rfl rfl (.loadP ty26 rfl rfl rfl) ?_
  refine RunT.ot0 (x := .agg [.v (.int .i64 a2.Size), .v (.int .i64 a2.Wheels)]) rfl rfl rfl rfl (.loadP ty66 rfl rfl rfl) ?_
  refine RunT.ot0 (x := .v (.int .i64 (wr ((IntKind.u64.wrap a4).tmod (IntKind.u64.wrap (r1.Seats.length : Int)))))) rfl rfl rfl rfl (.moveX rfl) ?_
  obtain ⟨r9, h10, H⟩ := bs H
  refine RunT.ot0 (x := .tup [.lst (List.map eI r9.1), .v (.bool r9.2)]) rfl rfl rfl rfl (.callp (PC.frozen (place_Seats_pc false k r1 a2 (wr ((IntKind.u64.wrap a4).tmod (IntKind.u64.wrap (r1.Seats.length : Int)))) r9 h10)) rfl ⟨(.agg' ⟨.lst, .v, .v, .lst, .lst, trivial⟩), (.agg' ⟨.v, .v, trivial⟩), (.one .v), trivial⟩ rfl rfl rfl) ?_
  refine RunT.ot0 (x := .tup [.lst (List.map eI r9.1), .v (.bool r9.2)]) rfl rfl rfl rfl (.moveX rfl) ?_
  refine RunT.ot0 (x := .lst (List.map eI r9.1)) rfl rfl rfl rfl (.extract rfl rfl) ?_
  refine RunT.ot0 (x := .v (.bool r9.2)) rfl rfl rfl rfl (.extract rfl rfl) ?_
  refine RunT.ot0 (x := .lst (List.map eI r9.1)) rfl rfl rfl rfl (.assignX rfl) ?_
  refine RunT.ot0 (x := .v (.bool r9.2)) rfl rfl rfl rfl (.assignX rfl) ?_
  refine RunT.nil ?_
  obtain ⟨o12, E13, HO14⟩ := bs H
  refine T.cut (⟨[(6, .ptr 0 0), (7, .ptr 1 0), (11, .ptr 2 0), (12, .v (.int .i64 (wr ((IntKind.u64.wrap a3).tmod (IntKind.u64.wrap (r1.Seats.length : Int)))))), (13, .v (.int .i64 (wr ((IntKind.u64.wrap a4).tmod (IntKind.u64.wrap (r1.Seats.length : Int)))))), (14, .lst (List.map eI r7.1)), (16, .lst (List.map eI r9.1)), (18, .v (.bool o12))], [(0, some (.box [.v (.int .i64 a1.Size), .v (.int .i64 a1.Wheels)])), (1, some (.box [.v (.int .i64 a2.Size), .v (.int .i64 a2.Wheels)])), (2, some (.box [.lst (List.map eSeat r1.Seats), .v (.int .i64 r1.Gap), .v (.int .i64 r1.Radius), .lst (List.map eI r1.Kills), .lst (List.map ePole r1.Poles)]))], 8, []⟩) ?_ ?_
  · have H := E13
    refine T.region ?_
    refine RunT.ot0 (x := .v (.bool r7.2)) rfl rfl rfl rfl (.moveX rfl) ?_
    refine RunT.ot0 (x := .v (.bool r7.2)) rfl rfl rfl rfl (.moveX rfl) ?_
    refine RunT.cases (t := 54) (c := r7.2) rfl (fun g15 => ?_) (fun g15 => ?_)
    · replace H := ct H g15
      refine RunT.gt0 (x := .v (.bool r9.2)) rfl rfl rfl (bo g15) rfl rfl (.moveX rfl) ?_
      refine RunT.ot0 (x := .v (.bool r9.2)) rfl rfl rfl rfl (.pickT (bo g15) rfl) ?_
      refine RunT.ot0 (x := .v (.bool r9.2)) rfl rfl rfl rfl (.assignX rfl) ?_
      refine RunT.nil ?_
      obtain rfl := si H
      exact (sub_to [some 0, some 8, some 16] (by decide) rfl rfl (⟨⟨_, rfl, .one (.ptr rfl)⟩, ⟨⟨_, rfl, .one (.ptr rfl)⟩, ⟨⟨_, rfl, .one (.ptr rfl)⟩, ⟨⟨_, rfl, .one .v⟩, ⟨⟨_, rfl, .one .v⟩, ⟨⟨_, rfl, .one .lst⟩, ⟨⟨_, rfl, .one .lst⟩, ⟨⟨_, rfl, .one .v⟩, trivial⟩⟩⟩⟩⟩⟩⟩⟩) (⟨⟨rfl, .inl ⟨_, _, rfl, rfl, .box ⟨.v, .v, trivial⟩⟩⟩, ⟨⟨rfl, .inl ⟨_, _, rfl, rfl, .box ⟨.v, .v, trivial⟩⟩⟩, ⟨⟨rfl, .inl ⟨_, _, rfl, rfl, .box ⟨.lst, .v, .v, .lst, .lst, trivial⟩⟩⟩, trivial⟩⟩⟩))
    · replace H := cf H g15
      refine RunT.xn rfl rfl rfl (bo g15) rfl rfl ?_
      refine RunT.ot0 (x := .v (.bool false)) rfl rfl rfl rfl (.pickF (bo g15) rfl) ?_
      refine RunT.ot0 (x := .v (.bool false)) rfl rfl rfl rfl (.assignX rfl) ?_
      refine RunT.nil ?_
      obtain rfl := si H
      exact (sub_to [some 0, some 8, some 16] (by decide) rfl rfl (⟨⟨_, rfl, .one (.ptr rfl)⟩, ⟨⟨_, rfl, .one (.ptr rfl)⟩, ⟨⟨_, rfl, .one (.ptr rfl)⟩, ⟨⟨_, rfl, .one .v⟩, ⟨⟨_, rfl, .one .v⟩, ⟨⟨_, rfl, .one .lst⟩, ⟨⟨_, rfl, .one .lst⟩, ⟨⟨_, rfl, .one .v⟩, trivial⟩⟩⟩⟩⟩⟩⟩⟩) (⟨⟨rfl, .inl ⟨_, _, rfl, rfl, .box ⟨.v, .v, trivial⟩⟩⟩, ⟨⟨rfl, .inl ⟨_, _, rfl, rfl, .box ⟨.v, .v, trivial⟩⟩⟩, ⟨⟨rfl, .inl ⟨_, _, rfl, rfl, .box ⟨.lst, .v, .v, .lst, .lst, trivial⟩⟩⟩, trivial⟩⟩⟩))
  · have H := HO14
    refine T.seq ?_
    refine T.seq ?_
    refine T.region ?_
    refine RunT.ot0 (x := .v (.int .i64 0)) rfl rfl rfl rfl (.assignX rfl) ?_
    refine RunT.nil ?_
    obtain ⟨o112, E113, HO114⟩ := bs H
    refine T.cutE (⟨[(6, .ptr 0 0), (7, .ptr 1 0), (11, .ptr 2 0), (12, .v (.int .i64 (wr ((IntKind.u64.wrap a3).tmod (IntKind.u64.wrap (r1.Seats.length : Int)))))), (13, .v (.int .i64 (wr ((IntKind.u64.wrap a4).tmod (IntKind.u64.wrap (r1.Seats.length : Int)))))), (18, .v (.bool o112))], [(0, some (.box [.v (.int .i64 a1.Size), .v (.int .i64 a1.Wheels)])), (1, some (.box [.v (.int .i64 a2.Size), .v (.int .i64 a2.Wheels)])), (2, some (.box [.lst (List.map eSeat r1.Seats), .v (.int .i64 r1.Gap), .v (.int .i64 r1.Radius), .lst (List.map eI r1.Kills), .lst (List.map ePole r1.Poles)]))], 8, []⟩) ?_ ?_
    · have H := E113
      refine T.block ?_
      refine T.loopS (fun n s => ∃ (v115 : Bool) (v116 : Int), law11_PlaceApart_l2 k r1 r7 r9 n v115 v116 = some o112 ∧ s = ⟨[(6, .ptr 0 0), (7, .ptr 1 0), (11, .ptr 2 0), (12, .v (.int .i64 (wr ((IntKind.u64.wrap a3).tmod (IntKind.u64.wrap (r1.Seats.length : Int)))))), (13, .v (.int .i64 (wr ((IntKind.u64.wrap a4).tmod (IntKind.u64.wrap (r1.Seats.length : Int)))))), (14, .lst (List.map eI r7.1)), (16, .lst (List.map eI r9.1)), (18, .v (.bool v115)), (19, .v (.int .i64 v116))], [(0, some (.box [.v (.int .i64 a1.Size), .v (.int .i64 a1.Wheels)])), (1, some (.box [.v (.int .i64 a2.Size), .v (.int .i64 a2.Wheels)])), (2, some (.box [.lst (List.map eSeat r1.Seats), .v (.int .i64 r1.Gap), .v (.int .i64 r1.Radius), .lst (List.map eI r1.Kills), .lst (List.map ePole r1.Poles)]))], 8, []⟩) k ⟨_, ⟨o12, 0, H, rfl⟩, sub_to [some 0, some 1, some 2] (by decide) rfl rfl (⟨⟨_, rfl, .one (.ptr rfl)⟩, ⟨⟨_, rfl, .one (.ptr rfl)⟩, ⟨⟨_, rfl, .one (.ptr rfl)⟩, ⟨⟨_, rfl, .one .v⟩, ⟨⟨_, rfl, .one .v⟩, ⟨⟨_, rfl, .one .lst⟩, ⟨⟨_, rfl, .one .lst⟩, ⟨⟨_, rfl, .one .v⟩, ⟨⟨_, rfl, .one .v⟩, trivial⟩⟩⟩⟩⟩⟩⟩⟩⟩) (⟨⟨rfl, .inl ⟨_, _, rfl, rfl, .box ⟨.v, .v, trivial⟩⟩⟩, ⟨⟨rfl, .inl ⟨_, _, rfl, rfl, .box ⟨.v, .v, trivial⟩⟩⟩, ⟨⟨rfl, .inl ⟨_, _, rfl, rfl, .box ⟨.lst, .v, .v, .lst, .lst, trivial⟩⟩⟩, trivial⟩⟩⟩)⟩ ?_
      rintro n s ⟨v115, v116, H, rfl⟩
      rcases n with _ | n
      · cases (show none = some _ from H)
      rw [law11_PlaceApart_l2] at H
      refine T.seq ?_
      refine T.seq ?_
      refine T.region ?_
      refine RunT.ot0 (x := .v (.int .i64 v116)) rfl rfl rfl rfl (.moveX rfl) ?_
      refine RunT.ot0 (x := .lst (List.map eI r7.1)) rfl rfl rfl rfl (.moveX rfl) ?_
      refine RunT.ot0 (x := .v (.int .i64 (r7.1.length : Int))) rfl rfl rfl rfl (.lenLm Try.underlying23 rfl rfl) ?_
      refine RunT.ot0 (x := .v (.bool (decide (v116 < (r7.1.length : Int))))) rfl rfl rfl rfl (.bin rfl rfl (fun w => b_lss w) rfl) ?_
      refine RunT.nil ?_
      refine T.cond2 (t := decide (v116 < (r7.1.length : Int))) rfl (fun c117 => ?_) (fun c117 => ?_)
      · replace H := ct H c117
        refine T.skip ?_
        refine T.seq ?_
        refine T.block ?_
        refine T.seq ?_
        refine T.region ?_
        refine RunT.ot0 (x := .v (.int .i64 0)) rfl rfl rfl rfl (.assignX rfl) ?_
        refine RunT.nil ?_
        obtain ⟨o146, E147, HO148⟩ := bs H
        refine T.cutE (⟨[(6, .ptr 0 0), (7, .ptr 1 0), (11, .ptr 2 0), (12, .v (.int .i64 (wr ((IntKind.u64.wrap a3).tmod (IntKind.u64.wrap (r1.Seats.length : Int)))))), (13, .v (.int .i64 (wr ((IntKind.u64.wrap a4).tmod (IntKind.u64.wrap (r1.Seats.length : Int)))))), (14, .lst (List.map eI r7.1)), (16, .lst (List.map eI r9.1)), (18, .v (.bool o146)), (19, .v (.int .i64 v116))], [(0, some (.box [.v (.int .i64 a1.Size), .v (.int .i64 a1.Wheels)])), (1, some (.box [.v (.int .i64 a2.Size), .v (.int .i64 a2.Wheels)])), (2, some (.box [.lst (List.map eSeat r1.Seats), .v (.int .i64 r1.Gap), .v (.int .i64 r1.Radius), .lst (List.map eI r1.Kills), .lst (List.map ePole r1.Poles)]))], 8, []⟩) ?_ ?_
        · have H := E147
          refine T.block ?_
          refine T.loopS (fun n s => ∃ (v149 : Bool) (v150 : Int), law11_PlaceApart_l3 k r1 r7 r9 v116 n v149 v150 = some o146 ∧ s = ⟨[(6, .ptr 0 0), (7, .ptr 1 0), (11, .ptr 2 0), (12, .v (.int .i64 (wr ((IntKind.u64.wrap a3).tmod (IntKind.u64.wrap (r1.Seats.length : Int)))))), (13, .v (.int .i64 (wr ((IntKind.u64.wrap a4).tmod (IntKind.u64.wrap (r1.Seats.length : Int)))))), (14, .lst (List.map eI r7.1)), (16, .lst (List.map eI r9.1)), (18, .v (.bool v149)), (19, .v (.int .i64 v116)), (20, .v (.int .i64 v150))], [(0, some (.box [.v (.int .i64 a1.Size), .v (.int .i64 a1.Wheels)])), (1, some (.box [.v (.int .i64 a2.Size), .v (.int .i64 a2.Wheels)])), (2, some (.box [.lst (List.map eSeat r1.Seats), .v (.int .i64 r1.Gap), .v (.int .i64 r1.Radius), .lst (List.map eI r1.Kills), .lst (List.map ePole r1.Poles)]))], 8, []⟩) k ⟨_, ⟨v115, 0, H, rfl⟩, sub_to [some 0, some 1, some 2] (by decide) rfl rfl (⟨⟨_, rfl, .one (.ptr rfl)⟩, ⟨⟨_, rfl, .one (.ptr rfl)⟩, ⟨⟨_, rfl, .one (.ptr rfl)⟩, ⟨⟨_, rfl, .one .v⟩, ⟨⟨_, rfl, .one .v⟩, ⟨⟨_, rfl, .one .lst⟩, ⟨⟨_, rfl, .one .lst⟩, ⟨⟨_, rfl, .one .v⟩, ⟨⟨_, rfl, .one .v⟩, ⟨⟨_, rfl, .one .v⟩, trivial⟩⟩⟩⟩⟩⟩⟩⟩⟩⟩) (⟨⟨rfl, .inl ⟨_, _, rfl, rfl, .box ⟨.v, .v, trivial⟩⟩⟩, ⟨⟨rfl, .inl ⟨_, _, rfl, rfl, .box ⟨.v, .v, trivial⟩⟩⟩, ⟨⟨rfl, .inl ⟨_, _, rfl, rfl, .box ⟨.lst, .v, .v, .lst, .lst, trivial⟩⟩⟩, trivial⟩⟩⟩)⟩ ?_
          rintro n s ⟨v149, v150, H, rfl⟩
          rcases n with _ | n
          · cases (show none = some _ from H)
          rw [law11_PlaceApart_l3] at H
          refine T.seq ?_
          refine T.seq ?_
          refine T.region ?_
          refine RunT.ot0 (x := .v (.int .i64 v150)) rfl rfl rfl rfl (.moveX rfl) ?_
          refine RunT.ot0 (x := .lst (List.map eI r9.1)) rfl rfl rfl rfl (.moveX rfl) ?_
          refine RunT.ot0 (x := .v (.int .i64 (r9.1.length : Int))) rfl rfl rfl rfl (.lenLm Try.underlying23 rfl rfl) ?_
          refine RunT.ot0 (x := .v (.bool (decide (v150 < (r9.1.length : Int))))) rfl rfl rfl rfl (.bin rfl rfl (fun w => b_lss w) rfl) ?_
          refine RunT.nil ?_
          refine T.cond2 (t := decide (v150 < (r9.1.length : Int))) rfl (fun c151 => ?_) (fun c151 => ?_)
          · replace H := ct H c151
            refine T.skip ?_
            refine T.seq ?_
            refine T.block ?_
            refine T.draw (wr := []) mixed rfl rfl ?_ rfl
            refine RunD.ot0 (x := .v (.bool v149)) rfl rfl rfl rfl (.moveX rfl) rfl ?_
            refine RunD.ot0 (x := .v (.bool v149)) rfl rfl rfl rfl (.moveX rfl) rfl ?_
            refine RunD.cases (t := 70) (c := v149) rfl (fun g164 => ?_) (fun g164 => ?_)
            · replace H := ct H g164
              refine RunD.gt0 (x := .lst (List.map eI r7.1)) rfl rfl rfl (bo g164) rfl rfl (.moveX rfl) rfl ?_
              refine RunD.gt0 (x := .v (.int .i64 v116)) rfl rfl rfl (bo g164) rfl rfl (.moveX rfl) rfl ?_
              obtain ⟨y165, h166, H⟩ := bs H
              refine RunD.gt0 (x := .rptr [.v (.int .i64 y165)]) rfl rfl rfl (bo g164) rfl rfl (.idxLX h166 enc_I sl23 rfl rfl rfl) rfl ?_
              refine RunD.gt0 (x := .v (.int .i64 y165)) rfl rfl rfl (bo g164) rfl rfl (.loadR ty3 rfl rfl) rfl ?_
              refine RunD.gt0 (x := .lst (List.map eI r9.1)) rfl rfl rfl (bo g164) rfl rfl (.moveX rfl) rfl ?_
              refine RunD.gt0 (x := .v (.int .i64 v150)) rfl rfl rfl (bo g164) rfl rfl (.moveX rfl) rfl ?_
              obtain ⟨y167, h168, H⟩ := bs H
              refine RunD.gt0 (x := .rptr [.v (.int .i64 y167)]) rfl rfl rfl (bo g164) rfl rfl (.idxLX h168 enc_I sl23 rfl rfl rfl) rfl ?_
              refine RunD.gt0 (x := .v (.int .i64 y167)) rfl rfl rfl (bo g164) rfl rfl (.loadR ty3 rfl rfl) rfl ?_
              refine RunD.gt0 (x := .v (.bool (!decide (y165 = y167)))) rfl rfl rfl (bo g164) rfl rfl (.bin rfl rfl (fun w => b_neq w) rfl) rfl ?_
              refine RunD.ot0 (x := .v (.bool (!decide (y165 = y167)))) rfl rfl rfl rfl (.pickT (bo g164) rfl) rfl ?_
              refine RunD.ot0 (x := .v (.bool (!decide (y165 = y167)))) rfl rfl rfl rfl (.moveX rfl) rfl ?_
              refine RunD.cases (t := 81) (c := !decide (y165 = y167)) rfl (fun g169 => ?_) (fun g169 => ?_)
              · replace H := ct H g169
                refine RunD.gt0 (x := .agg [.lst (List.map eSeat r1.Seats), .v (.int .i64 r1.Gap), .v (.int .i64 r1.Radius), .lst (List.map eI r1.Kills), .lst (List.map ePole r1.Poles)]) rfl rfl rfl (bo g169) rfl rfl (.loadP ty26 rfl rfl rfl) rfl ?_
                refine RunD.gt0 (x := .lst (List.map eI r7.1)) rfl rfl rfl (bo g169) rfl rfl (.moveX rfl) rfl ?_
                refine RunD.gt0 (x := .v (.int .i64 v116)) rfl rfl rfl (bo g169) rfl rfl (.moveX rfl) rfl ?_
                obtain ⟨y170, h171, H⟩ := bs H
                refine RunD.gt0 (x := .rptr [.v (.int .i64 y170)]) rfl rfl rfl (bo g169) rfl rfl (.idxLX h171 enc_I sl23 rfl rfl rfl) rfl ?_
                refine RunD.gt0 (x := .v (.int .i64 y170)) rfl rfl rfl (bo g169) rfl rfl (.loadR ty3 rfl rfl) rfl ?_
                refine RunD.gt0 (x := .lst (List.map eI r9.1)) rfl rfl rfl (bo g169) rfl rfl (.moveX rfl) rfl ?_
                refine RunD.gt0 (x := .v (.int .i64 v150)) rfl rfl rfl (bo g169) rfl rfl (.moveX rfl) rfl ?_
                obtain ⟨y172, h173, H⟩ := bs H
                refine RunD.gt0 (x := .rptr [.v (.int .i64 y172)]) rfl rfl rfl (bo g169) rfl rfl (.idxLX h173 enc_I sl23 rfl rfl rfl) rfl ?_
                refine RunD.gt0 (x := .v (.int .i64 y172)) rfl rfl rfl (bo g169) rfl rfl (.loadR ty3 rfl rfl) rfl ?_
                obtain ⟨r174, h175, H⟩ := bs H
                refine RunD.gt0 (x := .v (.bool r174)) rfl rfl rfl (bo g169) rfl rfl (.callp (ref6_Clash_pc false k r1 y170 y172 r174 h175) rfl ⟨(.agg' ⟨.lst, .v, .v, .lst, .lst, trivial⟩), (.one .v), (.one .v), trivial⟩ rfl rfl rfl) rfl ?_
                refine RunD.gt0 (x := .v (.bool (!r174))) rfl rfl rfl (bo g169) rfl rfl (.un rfl (fun w => u_not w) rfl) rfl ?_
                refine RunD.ot0 (x := .v (.bool (!r174))) rfl rfl rfl rfl (.pickT (bo g169) rfl) rfl ?_
                refine RunD.ot0 (x := .v (.bool (!r174))) rfl rfl rfl rfl (.assignX rfl) rfl ?_
                refine RunD.nil (by kernel_rfl) ⟨rfl, rfl, ?_⟩
                refine T.sub (sub_pick [6, 7, 11, 12, 13, 14, 16, 18, 19, 20] [0, 1, 2] (st' := ⟨[(6, .ptr 0 0), (7, .ptr 1 0), (11, .ptr 2 0), (12, .v (.int .i64 (wr ((IntKind.u64.wrap a3).tmod (IntKind.u64.wrap (r1.Seats.length : Int)))))), (13, .v (.int .i64 (wr ((IntKind.u64.wrap a4).tmod (IntKind.u64.wrap (r1.Seats.length : Int)))))), (14, .lst (List.map eI r7.1)), (16, .lst (List.map eI r9.1)), (18, .v (.bool (!r174))), (19, .v (.int .i64 v116)), (20, .v (.int .i64 v150))], [(0, some (.box [.v (.int .i64 a1.Size), .v (.int .i64 a1.Wheels)])), (1, some (.box [.v (.int .i64 a2.Size), .v (.int .i64 a2.Wheels)])), (2, some (.box [.lst (List.map eSeat r1.Seats), .v (.int .i64 r1.Gap), .v (.int .i64 r1.Radius), .lst (List.map eI r1.Kills), .lst (List.map ePole r1.Poles)]))], 216, []⟩) rfl rfl rfl rfl rfl) ?_
                refine T.region ?_
                refine RunT.ot0 (x := .v (.int .i64 v150)) rfl rfl rfl rfl (.moveX rfl) ?_
                refine RunT.ot0 (x := .v (.int .i64 (wr (v150 + 1)))) rfl rfl rfl rfl (.bin rfl rfl (fun w => b_addw w) rfl) ?_
                refine RunT.ot0 (x := .v (.int .i64 (wr (v150 + 1)))) rfl rfl rfl rfl (.assignX rfl) ?_
                refine RunT.nil ?_
                exact ⟨n, Nat.lt_succ_self n, _, ⟨!r174, wr (v150 + 1), H, rfl⟩, (sub_to [some 0, some 1, some 2] (by decide) rfl rfl (⟨⟨_, rfl, .one (.ptr rfl)⟩, ⟨⟨_, rfl, .one (.ptr rfl)⟩, ⟨⟨_, rfl, .one (.ptr rfl)⟩, ⟨⟨_, rfl, .one .v⟩, ⟨⟨_, rfl, .one .v⟩, ⟨⟨_, rfl, .one .lst⟩, ⟨⟨_, rfl, .one .lst⟩, ⟨⟨_, rfl, .one .v⟩, ⟨⟨_, rfl, .one .v⟩, ⟨⟨_, rfl, .one .v⟩, trivial⟩⟩⟩⟩⟩⟩⟩⟩⟩⟩) (⟨⟨rfl, .inl ⟨_, _, rfl, rfl, .box ⟨.v, .v, trivial⟩⟩⟩, ⟨⟨rfl, .inl ⟨_, _, rfl, rfl, .box ⟨.v, .v, trivial⟩⟩⟩, ⟨⟨rfl, .inl ⟨_, _, rfl, rfl, .box ⟨.lst, .v, .v, .lst, .lst, trivial⟩⟩⟩, trivial⟩⟩⟩))⟩
              · replace H := cf H g169
                refine RunD.xn rfl rfl rfl (bo g169) rfl rfl ?_
                refine RunD.xn rfl rfl rfl (bo g169) rfl rfl ?_
                refine RunD.xn rfl rfl rfl (bo g169) rfl rfl ?_
                refine RunD.xn rfl rfl rfl (bo g169) rfl rfl ?_
                refine RunD.xn rfl rfl rfl (bo g169) rfl rfl ?_
                refine RunD.xn rfl rfl rfl (bo g169) rfl rfl ?_
                refine RunD.xn rfl rfl rfl (bo g169) rfl rfl ?_
                refine RunD.xn rfl rfl rfl (bo g169) rfl rfl ?_
                refine RunD.xn rfl rfl rfl (bo g169) rfl rfl ?_
                refine RunD.xn rfl rfl rfl (bo g169) rfl rfl ?_
                refine RunD.xn rfl rfl rfl (bo g169) rfl rfl ?_
                refine RunD.ot0 (x := .v (.bool false)) rfl rfl rfl rfl (.pickF (bo g169) rfl) rfl ?_
                refine RunD.ot0 (x := .v (.bool false)) rfl rfl rfl rfl (.assignX rfl) rfl ?_
                refine RunD.nil (by kernel_rfl) ⟨rfl, rfl, ?_⟩
                refine T.sub (sub_pick [6, 7, 11, 12, 13, 14, 16, 18, 19, 20] [0, 1, 2] (st' := ⟨[(6, .ptr 0 0), (7, .ptr 1 0), (11, .ptr 2 0), (12, .v (.int .i64 (wr ((IntKind.u64.wrap a3).tmod (IntKind.u64.wrap (r1.Seats.length : Int)))))), (13, .v (.int .i64 (wr ((IntKind.u64.wrap a4).tmod (IntKind.u64.wrap (r1.Seats.length : Int)))))), (14, .lst (List.map eI r7.1)), (16, .lst (List.map eI r9.1)), (18, .v (.bool false)), (19, .v (.int .i64 v116)), (20, .v (.int .i64 v150))], [(0, some (.box [.v (.int .i64 a1.Size), .v (.int .i64 a1.Wheels)])), (1, some (.box [.v (.int .i64 a2.Size), .v (.int .i64 a2.Wheels)])), (2, some (.box [.lst (List.map eSeat r1.Seats), .v (.int .i64 r1.Gap), .v (.int .i64 r1.Radius), .lst (List.map eI r1.Kills), .lst (List.map ePole r1.Poles)]))], 216, []⟩) rfl rfl rfl rfl rfl) ?_
                refine T.region ?_
                refine RunT.ot0 (x := .v (.int .i64 v150)) rfl rfl rfl rfl (.moveX rfl) ?_
                refine RunT.ot0 (x := .v (.int .i64 (wr (v150 + 1)))) rfl rfl rfl rfl (.bin rfl rfl (fun w => b_addw w) rfl) ?_
                refine RunT.ot0 (x := .v (.int .i64 (wr (v150 + 1)))) rfl rfl rfl rfl (.assignX rfl) ?_
                refine RunT.nil ?_
                exact ⟨n, Nat.lt_succ_self n, _, ⟨false, wr (v150 + 1), H, rfl⟩, (sub_to [some 0, some 1, some 2] (by decide) rfl rfl (⟨⟨_, rfl, .one (.ptr rfl)⟩, ⟨⟨_, rfl, .one (.ptr rfl)⟩, ⟨⟨_, rfl, .one (.ptr rfl)⟩, ⟨⟨_, rfl, .one .v⟩, ⟨⟨_, rfl, .one .v⟩, ⟨⟨_, rfl, .one .lst⟩, ⟨⟨_, rfl, .one .lst⟩, ⟨⟨_, rfl, .one .v⟩, ⟨⟨_, rfl, .one .v⟩, ⟨⟨_, rfl, .one .v⟩, trivial⟩⟩⟩⟩⟩⟩⟩⟩⟩⟩) (⟨⟨rfl, .inl ⟨_, _, rfl, rfl, .box ⟨.v, .v, trivial⟩⟩⟩, ⟨⟨rfl, .inl ⟨_, _, rfl, rfl, .box ⟨.v, .v, trivial⟩⟩⟩, ⟨⟨rfl, .inl ⟨_, _, rfl, rfl, .box ⟨.lst, .v, .v, .lst, .lst, trivial⟩⟩⟩, trivial⟩⟩⟩))⟩
            · replace H := cf H g164
              refine RunD.xn rfl rfl rfl (bo g164) rfl rfl ?_
              refine RunD.xn rfl rfl rfl (bo g164) rfl rfl ?_
              refine RunD.xn rfl rfl rfl (bo g164) rfl rfl ?_
              refine RunD.xn rfl rfl rfl (bo g164) rfl rfl ?_
              refine RunD.xn rfl rfl rfl (bo g164) rfl rfl ?_
              refine RunD.xn rfl rfl rfl (bo g164) rfl rfl ?_
              refine RunD.xn rfl rfl rfl (bo g164) rfl rfl ?_
              refine RunD.xn rfl rfl rfl (bo g164) rfl rfl ?_
              refine RunD.xn rfl rfl rfl (bo g164) rfl rfl ?_
              refine RunD.ot0 (x := .v (.bool false)) rfl rfl rfl rfl (.pickF (bo g164) rfl) rfl ?_
              refine RunD.ot0 (x := .v (.bool false)) rfl rfl rfl rfl (.moveX rfl) rfl ?_
              refine RunD.xn rfl rfl rfl rfl rfl rfl ?_
              refine RunD.xn rfl rfl rfl rfl rfl rfl ?_
              refine RunD.xn rfl rfl rfl rfl rfl rfl ?_
              refine RunD.xn rfl rfl rfl rfl rfl rfl ?_
              refine RunD.xn rfl rfl rfl rfl rfl rfl ?_
              refine RunD.xn rfl rfl rfl rfl rfl rfl ?_
              refine RunD.xn rfl rfl rfl rfl rfl rfl ?_
              refine RunD.xn rfl rfl rfl rfl rfl rfl ?_
              refine RunD.xn rfl rfl rfl rfl rfl rfl ?_
              refine RunD.xn rfl rfl rfl rfl rfl rfl ?_
              refine RunD.xn rfl rfl rfl rfl rfl rfl ?_
              refine RunD.ot0 (x := .v (.bool false)) rfl rfl rfl rfl (.pickF rfl rfl) rfl ?_
              refine RunD.ot0 (x := .v (.bool false)) rfl rfl rfl rfl (.assignX rfl) rfl ?_
              refine RunD.nil (by kernel_rfl) ⟨rfl, rfl, ?_⟩
              refine T.sub (sub_pick [6, 7, 11, 12, 13, 14, 16, 18, 19, 20] [0, 1, 2] (st' := ⟨[(6, .ptr 0 0), (7, .ptr 1 0), (11, .ptr 2 0), (12, .v (.int .i64 (wr ((IntKind.u64.wrap a3).tmod (IntKind.u64.wrap (r1.Seats.length : Int)))))), (13, .v (.int .i64 (wr ((IntKind.u64.wrap a4).tmod (IntKind.u64.wrap (r1.Seats.length : Int)))))), (14, .lst (List.map eI r7.1)), (16, .lst (List.map eI r9.1)), (18, .v (.bool false)), (19, .v (.int .i64 v116)), (20, .v (.int .i64 v150))], [(0, some (.box [.v (.int .i64 a1.Size), .v (.int .i64 a1.Wheels)])), (1, some (.box [.v (.int .i64 a2.Size), .v (.int .i64 a2.Wheels)])), (2, some (.box [.lst (List.map eSeat r1.Seats), .v (.int .i64 r1.Gap), .v (.int .i64 r1.Radius), .lst (List.map eI r1.Kills), .lst (List.map ePole r1.Poles)]))], 216, []⟩) rfl rfl rfl rfl rfl) ?_
              refine T.region ?_
              refine RunT.ot0 (x := .v (.int .i64 v150)) rfl rfl rfl rfl (.moveX rfl) ?_
              refine RunT.ot0 (x := .v (.int .i64 (wr (v150 + 1)))) rfl rfl rfl rfl (.bin rfl rfl (fun w => b_addw w) rfl) ?_
              refine RunT.ot0 (x := .v (.int .i64 (wr (v150 + 1)))) rfl rfl rfl rfl (.assignX rfl) ?_
              refine RunT.nil ?_
              exact ⟨n, Nat.lt_succ_self n, _, ⟨false, wr (v150 + 1), H, rfl⟩, (sub_to [some 0, some 1, some 2] (by decide) rfl rfl (⟨⟨_, rfl, .one (.ptr rfl)⟩, ⟨⟨_, rfl, .one (.ptr rfl)⟩, ⟨⟨_, rfl, .one (.ptr rfl)⟩, ⟨⟨_, rfl, .one .v⟩, ⟨⟨_, rfl, .one .v⟩, ⟨⟨_, rfl, .one .lst⟩, ⟨⟨_, rfl, .one .lst⟩, ⟨⟨_, rfl, .one .v⟩, ⟨⟨_, rfl, .one .v⟩, ⟨⟨_, rfl, .one .v⟩, trivial⟩⟩⟩⟩⟩⟩⟩⟩⟩⟩) (⟨⟨rfl, .inl ⟨_, _, rfl, rfl, .box ⟨.v, .v, trivial⟩⟩⟩, ⟨⟨rfl, .inl ⟨_, _, rfl, rfl, .box ⟨.v, .v, trivial⟩⟩⟩, ⟨⟨rfl, .inl ⟨_, _, rfl, rfl, .box ⟨.lst, .v, .v, .lst, .lst, trivial⟩⟩⟩, trivial⟩⟩⟩))⟩
          · replace H := cf H c151
            refine T.exit ?_
            obtain rfl := si H
            exact (sub_to [some 0, some 1, some 2] (by decide) rfl rfl (⟨⟨_, rfl, .one (.ptr rfl)⟩, ⟨⟨_, rfl, .one (.ptr rfl)⟩, ⟨⟨_, rfl, .one (.ptr rfl)⟩, ⟨⟨_, rfl, .one .v⟩, ⟨⟨_, rfl, .one .v⟩, ⟨⟨_, rfl, .one .lst⟩, ⟨⟨_, rfl, .one .lst⟩, ⟨⟨_, rfl, .one .v⟩, ⟨⟨_, rfl, .one .v⟩, trivial⟩⟩⟩⟩⟩⟩⟩⟩⟩) (⟨⟨rfl, .inl ⟨_, _, rfl, rfl, .box ⟨.v, .v, trivial⟩⟩⟩, ⟨⟨rfl, .inl ⟨_, _, rfl, rfl, .box ⟨.v, .v, trivial⟩⟩⟩, ⟨⟨rfl, .inl ⟨_, _, rfl, rfl, .box ⟨.lst, .v, .v, .lst, .lst, trivial⟩⟩⟩, trivial⟩⟩⟩))
        · intro s hS
          have H := HO148
          refine T.sub hS ?_
          refine T.region ?_
          refine RunT.ot0 (x := .v (.int .i64 v116)) rfl rfl rfl rfl (.moveX rfl) ?_
          refine RunT.ot0 (x := .v (.int .i64 (wr (v116 + 1)))) rfl rfl rfl rfl (.bin rfl rfl (fun w => b_addw w) rfl) ?_
          refine RunT.ot0 (x := .v (.int .i64 (wr (v116 + 1)))) rfl rfl rfl rfl (.assignX rfl) ?_
          refine RunT.nil ?_
          exact ⟨n, Nat.lt_succ_self n, _, ⟨o146, wr (v116 + 1), H, rfl⟩, (sub_to [some 0, some 1, some 2] (by decide) rfl rfl (⟨⟨_, rfl, .one (.ptr rfl)⟩, ⟨⟨_, rfl, .one (.ptr rfl)⟩, ⟨⟨_, rfl, .one (.ptr rfl)⟩, ⟨⟨_, rfl, .one .v⟩, ⟨⟨_, rfl, .one .v⟩, ⟨⟨_, rfl, .one .lst⟩, ⟨⟨_, rfl, .one .lst⟩, ⟨⟨_, rfl, .one .v⟩, ⟨⟨_, rfl, .one .v⟩, trivial⟩⟩⟩⟩⟩⟩⟩⟩⟩) (⟨⟨rfl, .inl ⟨_, _, rfl, rfl, .box ⟨.v, .v, trivial⟩⟩⟩, ⟨⟨rfl, .inl ⟨_, _, rfl, rfl, .box ⟨.v, .v, trivial⟩⟩⟩, ⟨⟨rfl, .inl ⟨_, _, rfl, rfl, .box ⟨.lst, .v, .v, .lst, .lst, trivial⟩⟩⟩, trivial⟩⟩⟩))⟩
      · replace H := cf H c117
        refine T.exit ?_
        obtain rfl := si H
        exact (sub_to [some 0, some 1, some 2] (by decide) rfl rfl (⟨⟨_, rfl, .one (.ptr rfl)⟩, ⟨⟨_, rfl, .one (.ptr rfl)⟩, ⟨⟨_, rfl, .one (.ptr rfl)⟩, ⟨⟨_, rfl, .one .v⟩, ⟨⟨_, rfl, .one .v⟩, ⟨⟨_, rfl, .one .v⟩, trivial⟩⟩⟩⟩⟩⟩) (⟨⟨rfl, .inl ⟨_, _, rfl, rfl, .box ⟨.v, .v, trivial⟩⟩⟩, ⟨⟨rfl, .inl ⟨_, _, rfl, rfl, .box ⟨.v, .v, trivial⟩⟩⟩, ⟨⟨rfl, .inl ⟨_, _, rfl, rfl, .box ⟨.lst, .v, .v, .lst, .lst, trivial⟩⟩⟩, trivial⟩⟩⟩))
    · intro s hS
      have H := HO114
      refine T.sub hS ?_
      refine T.seq ?_
      refine T.region ?_
      obtain ⟨r176, h177, H⟩ := bs H
      refine RunT.ot0 (x := .v (.bool r176)) rfl rfl rfl rfl (.callp (law11_told_pc false k  r176 h177) rfl trivial rfl rfl rfl) ?_
      refine RunT.ot0 (x := .v (.bool r176)) rfl rfl rfl rfl (.moveX rfl) ?_
      refine RunT.cases (t := 95) (c := r176) rfl (fun g178 => ?_) (fun g178 => ?_)
      · replace H := ct H g178
        refine RunT.gt0 (x := .agg [.lst (List.map eSeat r1.Seats), .v (.int .i64 r1.Gap), .v (.int .i64 r1.Radius), .lst (List.map eI r1.Kills), .lst (List.map ePole r1.Poles)]) rfl rfl rfl (bo g178) rfl rfl (.loadP ty26 rfl rfl rfl) ?_
        refine RunT.gt0 (x := .agg [.v (.int .i64 a1.Size), .v (.int .i64 a1.Wheels)]) rfl rfl rfl (bo g178) rfl rfl (.loadP ty66 rfl rfl rfl) ?_
        refine RunT.gt0 (x := .v (.int .i64 (wr ((IntKind.u64.wrap a3).tmod (IntKind.u64.wrap (r1.Seats.length : Int)))))) rfl rfl rfl (bo g178) rfl rfl (.moveX rfl) ?_
        refine RunT.gt0 (x := .agg [.v (.int .i64 a2.Size), .v (.int .i64 a2.Wheels)]) rfl rfl rfl (bo g178) rfl rfl (.loadP ty66 rfl rfl rfl) ?_
        refine RunT.gt0 (x := .v (.int .i64 (wr ((IntKind.u64.wrap a4).tmod (IntKind.u64.wrap (r1.Seats.length : Int)))))) rfl rfl rfl (bo g178) rfl rfl (.moveX rfl) ?_
        obtain ⟨r179, h180, H⟩ := bs H
        refine RunT.gt0 (x := .v (.bool r179)) rfl rfl rfl (bo g178) rfl rfl (.callp (place_Apart_pc false k r1 a1 (wr ((IntKind.u64.wrap a3).tmod (IntKind.u64.wrap (r1.Seats.length : Int)))) a2 (wr ((IntKind.u64.wrap a4).tmod (IntKind.u64.wrap (r1.Seats.length : Int)))) r179 h180) rfl ⟨(.agg' ⟨.lst, .v, .v, .lst, .lst, trivial⟩), (.agg' ⟨.v, .v, trivial⟩), (.one .v), (.agg' ⟨.v, .v, trivial⟩), (.one .v), trivial⟩ rfl rfl rfl) ?_
        refine RunT.gt0 (x := .v (.bool o112)) rfl rfl rfl (bo g178) rfl rfl (.moveX rfl) ?_
        refine RunT.gt0 (x := .v (.bool (r179 == o112))) rfl rfl rfl (bo g178) rfl rfl (.bin rfl rfl (fun w => b_eqB w Try.underlying4) rfl) ?_
        refine RunT.ot0 (x := .v (.bool (r179 == o112))) rfl rfl rfl rfl (.pickT (bo g178) rfl) ?_
        refine RunT.ot0 (x := .v (.bool (r179 == o112))) rfl rfl rfl rfl (.moveX rfl) ?_
        refine RunT.cases (t := 105) (c := r179 == o112) rfl (fun g181 => ?_) (fun g181 => ?_)
        · replace H := ct H g181
          refine RunT.gt0 (x := .agg [.lst (List.map eSeat r1.Seats), .v (.int .i64 r1.Gap), .v (.int .i64 r1.Radius), .lst (List.map eI r1.Kills), .lst (List.map ePole r1.Poles)]) rfl rfl rfl (bo g181) rfl rfl (.loadP ty26 rfl rfl rfl) ?_
          refine RunT.gt0 (x := .agg [.v (.int .i64 a2.Size), .v (.int .i64 a2.Wheels)]) rfl rfl rfl (bo g181) rfl rfl (.loadP ty66 rfl rfl rfl) ?_
          refine RunT.gt0 (x := .v (.int .i64 (wr ((IntKind.u64.wrap a4).tmod (IntKind.u64.wrap (r1.Seats.length : Int)))))) rfl rfl rfl (bo g181) rfl rfl (.moveX rfl) ?_
          refine RunT.gt0 (x := .agg [.v (.int .i64 a1.Size), .v (.int .i64 a1.Wheels)]) rfl rfl rfl (bo g181) rfl rfl (.loadP ty66 rfl rfl rfl) ?_
          refine RunT.gt0 (x := .v (.int .i64 (wr ((IntKind.u64.wrap a3).tmod (IntKind.u64.wrap (r1.Seats.length : Int)))))) rfl rfl rfl (bo g181) rfl rfl (.moveX rfl) ?_
          obtain ⟨r182, h183, H⟩ := bs H
          refine RunT.gt0 (x := .v (.bool r182)) rfl rfl rfl (bo g181) rfl rfl (.callp (place_Apart_pc false k r1 a2 (wr ((IntKind.u64.wrap a4).tmod (IntKind.u64.wrap (r1.Seats.length : Int)))) a1 (wr ((IntKind.u64.wrap a3).tmod (IntKind.u64.wrap (r1.Seats.length : Int)))) r182 h183) rfl ⟨(.agg' ⟨.lst, .v, .v, .lst, .lst, trivial⟩), (.agg' ⟨.v, .v, trivial⟩), (.one .v), (.agg' ⟨.v, .v, trivial⟩), (.one .v), trivial⟩ rfl rfl rfl) ?_
          refine RunT.gt0 (x := .v (.bool o112)) rfl rfl rfl (bo g181) rfl rfl (.moveX rfl) ?_
          refine RunT.gt0 (x := .v (.bool (r182 == o112))) rfl rfl rfl (bo g181) rfl rfl (.bin rfl rfl (fun w => b_eqB w Try.underlying4) rfl) ?_
          refine RunT.ot0 (x := .v (.bool (r182 == o112))) rfl rfl rfl rfl (.pickT (bo g181) rfl) ?_
          refine RunT.ot0 (x := .v (.bool (r182 == o112))) rfl rfl rfl rfl (.assignX rfl) ?_
          refine RunT.nil ?_
          obtain rfl := si H
          refine T.sub (sub_to (st' := ⟨[(10, .v (.bool (r182 == o112)))], [], 8, []⟩) [] (by decide) rfl rfl (⟨⟨_, rfl, .one .v⟩, trivial⟩) (trivial)) ?_
          refine T.ret ?_
          exact RetOk.same [.v (.bool (r182 == o112))] ⟨rfl, trivial⟩ rfl rfl rfl
        · replace H := cf H g181
          refine RunT.xn rfl rfl rfl (bo g181) rfl rfl ?_
          refine RunT.xn rfl rfl rfl (bo g181) rfl rfl ?_
          refine RunT.xn rfl rfl rfl (bo g181) rfl rfl ?_
          refine RunT.xn rfl rfl rfl (bo g181) rfl rfl ?_
          refine RunT.xn rfl rfl rfl (bo g181) rfl rfl ?_
          refine RunT.xn rfl rfl rfl (bo g181) rfl rfl ?_
          refine RunT.xn rfl rfl rfl (bo g181) rfl rfl ?_
          refine RunT.xn rfl rfl rfl (bo g181) rfl rfl ?_
          refine RunT.ot0 (x := .v (.bool false)) rfl rfl rfl rfl (.pickF (bo g181) rfl) ?_
          refine RunT.ot0 (x := .v (.bool false)) rfl rfl rfl rfl (.assignX rfl) ?_
          refine RunT.nil ?_
          obtain rfl := si H
          refine T.sub (sub_to (st' := ⟨[(10, .v (.bool false))], [], 8, []⟩) [] (by decide) rfl rfl (⟨⟨_, rfl, .one .v⟩, trivial⟩) (trivial)) ?_
          refine T.ret ?_
          exact RetOk.same [.v (.bool false)] ⟨rfl, trivial⟩ rfl rfl rfl
      · replace H := cf H g178
        refine RunT.xn rfl rfl rfl (bo g178) rfl rfl ?_
        refine RunT.xn rfl rfl rfl (bo g178) rfl rfl ?_
        refine RunT.xn rfl rfl rfl (bo g178) rfl rfl ?_
        refine RunT.xn rfl rfl rfl (bo g178) rfl rfl ?_
        refine RunT.xn rfl rfl rfl (bo g178) rfl rfl ?_
        refine RunT.xn rfl rfl rfl (bo g178) rfl rfl ?_
        refine RunT.xn rfl rfl rfl (bo g178) rfl rfl ?_
        refine RunT.xn rfl rfl rfl (bo g178) rfl rfl ?_
        refine RunT.ot0 (x := .v (.bool false)) rfl rfl rfl rfl (.pickF (bo g178) rfl) ?_
        refine RunT.ot0 (x := .v (.bool false)) rfl rfl rfl rfl (.moveX rfl) ?_
        refine RunT.xn rfl rfl rfl rfl rfl rfl ?_
        refine RunT.xn rfl rfl rfl rfl rfl rfl ?_
        refine RunT.xn rfl rfl rfl rfl rfl rfl ?_
        refine RunT.xn rfl rfl rfl rfl rfl rfl ?_
        refine RunT.xn rfl rfl rfl rfl rfl rfl ?_
        refine RunT.xn rfl rfl rfl rfl rfl rfl ?_
        refine RunT.xn rfl rfl rfl rfl rfl rfl ?_
        refine RunT.xn rfl rfl rfl rfl rfl rfl ?_
        refine RunT.ot0 (x := .v (.bool false)) rfl rfl rfl rfl (.pickF rfl rfl) ?_
        refine RunT.ot0 (x := .v (.bool false)) rfl rfl rfl rfl (.assignX rfl) ?_
        refine RunT.nil ?_
        obtain rfl := si H
        refine T.sub (sub_to (st' := ⟨[(10, .v (.bool false))], [], 8, []⟩) [] (by decide) rfl rfl (⟨⟨_, rfl, .one .v⟩, trivial⟩) (trivial)) ?_
        refine T.ret ?_
        exact RetOk.same [.v (.bool false)] ⟨rfl, trivial⟩ rfl rfl rfl
end Go.Proofs.Ytlfpkjlaajfjnaa
