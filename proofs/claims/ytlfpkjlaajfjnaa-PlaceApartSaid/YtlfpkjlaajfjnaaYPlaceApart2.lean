/- The Go functions come to just what their plain forms come to: one contract each. -/
import Derived.Test.YtlfpkjlaajfjnaaYPlaceApart1
set_option linter.unusedVariables false
set_option linter.unusedSimpArgs false
set_option maxRecDepth 100000
namespace Go.Proofs.Ytlfpkjlaajfjnaa
open Go Go.Sh Go.Px
attribute [local irreducible] Go.Sh.T Go.Sh.RunT Go.Sh.RunD
set_option maxHeartbeats 4000000 in
theorem place_Hall_Seats_pc (al : Bool) (k : Nat) (a0 : PlaceHall) (a1 : Party) (a2 : Int) (o : (List Int) × Bool) (H : place_Hall_Seats k a0 a1 a2 = some o) : PC Try.prog al 111 [.agg [.lst (List.map eSeat a0.V.Seats), .v (.int .i64 a0.V.Gap), .v (.int .i64 a0.V.Radius), .lst (List.map eI a0.V.Kills), .lst (List.map ePole a0.V.Poles), .lst (List.map eB a0.usable)], .agg [.v (.int .i64 a1.Size), .v (.int .i64 a1.Wheels)], .v (.int .i64 a2)] (.tup [.frs 1 (List.map eI o.1), .v (.bool o.2)]) := by
  unfold place_Hall_Seats at H
  refine PC.of_T Try.func111 rfl rfl (n := 35) rfl rfl (.inr (flatT_tup ⟨(flat1_frs (sz := 1) fl_I), rfl, trivial⟩)) ?_
  intro base B w0
  refine T.st (st' := ⟨[(0, .agg [.lst (List.map eSeat a0.V.Seats), .v (.int .i64 a0.V.Gap), .v (.int .i64 a0.V.Radius), .lst (List.map eI a0.V.Kills), .lst (List.map ePole a0.V.Poles), .lst (List.map eB a0.usable)]), (1, .agg [.v (.int .i64 a1.Size), .v (.int .i64 a1.Wheels)]), (2, .v (.int .i64 a2))], [], 0, []⟩) rfl ?_
  refine T.seq ?_
  refine T.region ?_
  refine RunT.ot1 (x := .ptr 0 0) (p0 := (0, some (.box [.lst (List.map eSeat a0.V.Seats), .v (.int .i64 a0.V.Gap), .v (.int .i64 a0.V.Radius), .lst (List.map eI a0.V.Kills), .lst (List.map ePole a0.V.Poles), .lst (List.map eB a0.usable)]))) (n' := 8) rfl rfl rfl rfl (.boxX rfl rfl rfl) rfl ?_
  refine RunT.ot1 (x := .ptr 8 0) (p0 := (8, some (.box [.v (.int .i64 a1.Size), .v (.int .i64 a1.Wheels)]))) (n' := 16) rfl rfl rfl rfl (.boxX rfl rfl rfl) rfl ?_
  refine RunT.ot0 (x := .v (.slice none 0 0)) rfl rfl rfl rfl (.assignX rfl) ?_
  refine RunT.ot0 (x := .v (.bool false)) rfl rfl rfl rfl (.assignX rfl) ?_
  refine RunT.nil ?_
  refine T.seq ?_
  refine T.seq ?_
  refine T.region ?_
  refine RunT.ot0 (x := .agg [.v (.int .i64 a1.Size), .v (.int .i64 a1.Wheels)]) rfl rfl rfl rfl (.loadP ty66 rfl rfl rfl) ?_
  obtain ⟨r1, h2, H⟩ := bs H
  refine RunT.ot0 (x := .v (.bool r1)) rfl rfl rfl rfl (.callp (party_May_pc false k a1 r1 h2) rfl ⟨(.agg' ⟨.v, .v, trivial⟩), trivial⟩ rfl rfl rfl) ?_
  refine RunT.ot0 (x := .v (.bool (!r1))) rfl rfl rfl rfl (.un rfl (fun w => u_not w) rfl) ?_
  refine RunT.nil ?_
  refine T.cond2 (t := !r1) rfl (fun c3 => ?_) (fun c3 => ?_)
  · replace H := ct H c3
    refine T.seq ?_
    refine T.region ?_
    refine RunT.ot0 (x := .v (.slice none 0 0)) rfl rfl rfl rfl (.assignX rfl) ?_
    refine RunT.ot0 (x := .v (.bool false)) rfl rfl rfl rfl (.assignX rfl) ?_
    refine RunT.nil ?_
    obtain rfl := si H
    refine T.sub (sub_to (st' := ⟨[(6, .own 0 0 0), (7, .v (.bool false))], [(0, some (.arr false 1 (List.map eI [])))], 8, []⟩) [none] (by decide) rfl rfl (⟨⟨_, rfl, .one .nilO⟩, ⟨⟨_, rfl, .one .v⟩, trivial⟩⟩) (⟨⟨rfl, .inr ⟨rfl, false, _, rfl, (by decide)⟩⟩, trivial⟩)) ?_
    refine T.ret ?_
    exact RetOk.same [.own 0 0 0, .v (.bool false)] ⟨rfl, rfl, trivial⟩ rfl rfl rfl
  · replace H := cf H c3
    refine T.skip ?_
    refine T.seq ?_
    refine T.region ?_
    refine RunT.ot0 (x := .ptr 0 0) rfl rfl rfl rfl (.fieldPX fl115_0 rfl rfl) ?_
    refine RunT.ot0 (x := .agg [.lst (List.map eSeat a0.V.Seats), .v (.int .i64 a0.V.Gap), .v (.int .i64 a0.V.Radius), .lst (List.map eI a0.V.Kills), .lst (List.map ePole a0.V.Poles)]) rfl rfl rfl rfl (.loadP ty26 rfl rfl rfl) ?_
    refine RunT.ot0 (x := .ptr 0 5) rfl rfl rfl rfl (.fieldPX fl115_1 rfl rfl) ?_
    refine RunT.ot0 (x := .lst (List.map eB a0.usable)) rfl rfl rfl rfl (.loadP ty43 rfl rfl rfl) ?_
    refine RunT.ot0 (x := .v (.int .i64 a2)) rfl rfl rfl rfl (.moveX rfl) ?_
    refine RunT.ot0 (x := .ptr 8 0) rfl rfl rfl rfl (.fieldPX fl66_0 rfl rfl) ?_
    refine RunT.ot0 (x := .v (.int .i64 a1.Size)) rfl rfl rfl rfl (.loadP ty3 rfl rfl rfl) ?_
    obtain ⟨r4, h5, H⟩ := bs H
    refine RunT.ot1 (x := .tup [.own 16 0 ((List.map eI r4.1).length), .v (.bool r4.2)]) (p0 := (16, some (.arr false 1 (List.map eI r4.1)))) (n' := 24) rfl rfl rfl rfl (.callp (run_Take_pc false k a0.V a0.usable a2 a1.Size r4 h5) rfl ⟨(.agg' ⟨.lst, .v, .v, .lst, .lst, trivial⟩), (.one .lst), (.one .v), (.one .v), trivial⟩ rfl rfl rfl) rfl ?_
    refine RunT.ot0 (x := .tup [.own 16 0 ((List.map eI r4.1).length), .v (.bool r4.2)]) rfl rfl rfl rfl (.moveX rfl) ?_
    refine RunT.ot0 (x := .own 16 0 ((List.map eI r4.1).length)) rfl rfl rfl rfl (.extract rfl rfl) ?_
    refine RunT.ot0 (x := .v (.bool r4.2)) rfl rfl rfl rfl (.extract rfl rfl) ?_
    refine RunT.ot0 (x := .own 16 0 ((List.map eI r4.1).length)) rfl rfl rfl rfl (.assignX rfl) ?_
    refine RunT.ot0 (x := .v (.bool r4.2)) rfl rfl rfl rfl (.assignX rfl) ?_
    refine RunT.nil ?_
    refine T.seq ?_
    refine T.seq ?_
    refine T.sub (sub_pick [3, 4, 8, 9] [0, 8, 16] (st' := ⟨[(3, .ptr 0 0), (4, .ptr 8 0), (8, .own 16 0 ((List.map eI r4.1).length)), (9, .v (.bool r4.2))], [(0, some (.box [.lst (List.map eSeat a0.V.Seats), .v (.int .i64 a0.V.Gap), .v (.int .i64 a0.V.Radius), .lst (List.map eI a0.V.Kills), .lst (List.map ePole a0.V.Poles), .lst (List.map eB a0.usable)])), (8, some (.box [.v (.int .i64 a1.Size), .v (.int .i64 a1.Wheels)])), (16, some (.arr false 1 (List.map eI r4.1)))], 24, []⟩) rfl rfl rfl rfl rfl) ?_
    refine T.region ?_
    refine RunT.ot0 (x := .v (.bool r4.2)) rfl rfl rfl rfl (.moveX rfl) ?_
    refine RunT.ot0 (x := .v (.bool (!r4.2))) rfl rfl rfl rfl (.un rfl (fun w => u_not w) rfl) ?_
    refine RunT.ot0 (x := .v (.bool (!r4.2))) rfl rfl rfl rfl (.moveX rfl) ?_
    refine RunT.cases (t := 26) (c := !r4.2) rfl (fun g6 => ?_) (fun g6 => ?_)
    · replace H := ct H g6
      refine RunT.xn rfl rfl rfl (bo g6) rfl rfl ?_
      refine RunT.xn rfl rfl rfl (bo g6) rfl rfl ?_
      refine RunT.xn rfl rfl rfl (bo g6) rfl rfl ?_
      refine RunT.xn rfl rfl rfl (bo g6) rfl rfl ?_
      refine RunT.xn rfl rfl rfl (bo g6) rfl rfl ?_
      refine RunT.xn rfl rfl rfl (bo g6) rfl rfl ?_
      refine RunT.ot0 (x := .v (.bool true)) rfl rfl rfl rfl (.pickT (bo g6) rfl) ?_
      refine RunT.nil ?_
      refine T.condT rfl ?_
      refine T.seq ?_
      refine T.region ?_
      refine RunT.ot0 (x := .v (.slice none 0 0)) rfl rfl rfl rfl (.assignX rfl) ?_
      refine RunT.ot0 (x := .v (.bool false)) rfl rfl rfl rfl (.assignX rfl) ?_
      refine RunT.nil ?_
      obtain rfl := si H
      refine T.sub (sub_to (st' := ⟨[(6, .own 0 0 0), (7, .v (.bool false))], [(0, some (.arr false 1 (List.map eI [])))], 8, []⟩) [none] (by decide) rfl rfl (⟨⟨_, rfl, .one .nilO⟩, ⟨⟨_, rfl, .one .v⟩, trivial⟩⟩) (⟨⟨rfl, .inr ⟨rfl, false, _, rfl, (by decide)⟩⟩, trivial⟩)) ?_
      refine T.ret ?_
      exact RetOk.same [.own 0 0 0, .v (.bool false)] ⟨rfl, rfl, trivial⟩ rfl rfl rfl
    · replace H := cf H g6
      refine RunT.gt0 (x := .agg [.lst (List.map eSeat a0.V.Seats), .v (.int .i64 a0.V.Gap), .v (.int .i64 a0.V.Radius), .lst (List.map eI a0.V.Kills), .lst (List.map ePole a0.V.Poles), .lst (List.map eB a0.usable)]) rfl rfl rfl (bo g6) rfl rfl (.loadP ty115 rfl rfl rfl) ?_
      refine RunT.gt0 (x := .own 16 0 ((List.map eI r4.1).length)) rfl rfl rfl (bo g6) rfl rfl (.moveX rfl) ?_
      refine RunT.gt0 (x := .ptr 8 1) rfl rfl rfl (bo g6) rfl rfl (.fieldPX fl66_1 rfl rfl) ?_
      refine RunT.gt0 (x := .v (.int .i64 a1.Wheels)) rfl rfl rfl (bo g6) rfl rfl (.loadP ty3 rfl rfl rfl) ?_
      obtain ⟨r7, h8, H⟩ := bs H
      refine RunT.gt0 (x := .v (.bool r7)) rfl rfl rfl (bo g6) rfl rfl (.callp (place_Hall_kinds_pc false k a0 r4.1 a1.Wheels r7 h8) rfl ⟨(.agg' ⟨.lst, .v, .v, .lst, .lst, .lst, trivial⟩), (.one (.all rfl ((List.length_map _).trans (List.length_map _).symm))), (.one .v), trivial⟩ rfl rfl rfl) ?_
      refine RunT.gt0 (x := .v (.bool (!r7))) rfl rfl rfl (bo g6) rfl rfl (.un rfl (fun w => u_not w) rfl) ?_
      refine RunT.ot0 (x := .v (.bool (!r7))) rfl rfl rfl rfl (.pickF (bo g6) rfl) ?_
      refine RunT.nil ?_
      refine T.cond2 (t := !r7) rfl (fun c9 => ?_) (fun c9 => ?_)
      · replace H := ct H c9
        refine T.seq ?_
        refine T.region ?_
        refine RunT.ot0 (x := .v (.slice none 0 0)) rfl rfl rfl rfl (.assignX rfl) ?_
        refine RunT.ot0 (x := .v (.bool false)) rfl rfl rfl rfl (.assignX rfl) ?_
        refine RunT.nil ?_
        obtain rfl := si H
        refine T.sub (sub_to (st' := ⟨[(6, .own 0 0 0), (7, .v (.bool false))], [(0, some (.arr false 1 (List.map eI [])))], 8, []⟩) [none] (by decide) rfl rfl (⟨⟨_, rfl, .one .nilO⟩, ⟨⟨_, rfl, .one .v⟩, trivial⟩⟩) (⟨⟨rfl, .inr ⟨rfl, false, _, rfl, (by decide)⟩⟩, trivial⟩)) ?_
        refine T.ret ?_
        exact RetOk.same [.own 0 0 0, .v (.bool false)] ⟨rfl, rfl, trivial⟩ rfl rfl rfl
      · replace H := cf H c9
        refine T.skip ?_
        refine T.seq ?_
        refine T.region ?_
        refine RunT.ot0 (x := .own 16 0 ((List.map eI r4.1).length)) rfl rfl rfl rfl (.moveX rfl) ?_
        refine RunT.ot0 (x := .own 16 0 ((List.map eI r4.1).length)) rfl rfl rfl rfl (.assignX rfl) ?_
        refine RunT.ot0 (x := .v (.bool true)) rfl rfl rfl rfl (.assignX rfl) ?_
        refine RunT.nil ?_
        obtain rfl := si H
        refine T.sub (sub_to (st' := ⟨[(6, .own 0 0 ((List.map eI r4.1).length)), (7, .v (.bool true))], [(0, some (.arr false 1 (List.map eI r4.1)))], 8, []⟩) [some 16] (by decide) rfl rfl (⟨⟨_, rfl, .one (.own' rfl ((List.length_map _).trans (List.length_map _).symm))⟩, ⟨⟨_, rfl, .one .v⟩, trivial⟩⟩) (⟨⟨rfl, .inl ⟨_, _, rfl, rfl, .arr rfl⟩⟩, trivial⟩)) ?_
        refine T.ret ?_
        exact RetOk.same [.own 0 0 ((List.map eI r4.1).length), .v (.bool true)] ⟨rfl, rfl, trivial⟩ rfl rfl rfl
set_option maxHeartbeats 4000000 in
theorem place_Hall_All_pc (al : Bool) (k : Nat) (a0 : PlaceHall) (a1 : Party) (o : (List Int)) (H : place_Hall_All k a0 a1 = some o) : PC Try.prog al 108 [.agg [.lst (List.map eSeat a0.V.Seats), .v (.int .i64 a0.V.Gap), .v (.int .i64 a0.V.Radius), .lst (List.map eI a0.V.Kills), .lst (List.map ePole a0.V.Poles), .lst (List.map eB a0.usable)], .agg [.v (.int .i64 a1.Size), .v (.int .i64 a1.Wheels)]] (.frs 1 (List.map eI o)) := by
  unfold place_Hall_All at H
  refine PC.of_T Try.func108 rfl rfl (n := 30) rfl rfl (.inr (flat1_frs (sz := 1) fl_I)) ?_
  intro base B w0
  refine T.st (st' := ⟨[(0, .agg [.lst (List.map eSeat a0.V.Seats), .v (.int .i64 a0.V.Gap), .v (.int .i64 a0.V.Radius), .lst (List.map eI a0.V.Kills), .lst (List.map ePole a0.V.Poles), .lst (List.map eB a0.usable)]), (1, .agg [.v (.int .i64 a1.Size), .v (.int .i64 a1.Wheels)])], [], 0, []⟩) rfl ?_
  refine T.seq ?_
  refine T.region ?_
  refine RunT.ot1 (x := .ptr 0 0) (p0 := (0, some (.box [.lst (List.map eSeat a0.V.Seats), .v (.int .i64 a0.V.Gap), .v (.int .i64 a0.V.Radius), .lst (List.map eI a0.V.Kills), .lst (List.map ePole a0.V.Poles), .lst (List.map eB a0.usable)]))) (n' := 8) rfl rfl rfl rfl (.boxX rfl rfl rfl) rfl ?_
  refine RunT.ot1 (x := .ptr 8 0) (p0 := (8, some (.box [.v (.int .i64 a1.Size), .v (.int .i64 a1.Wheels)]))) (n' := 16) rfl rfl rfl rfl (.boxX rfl rfl rfl) rfl ?_
  refine RunT.ot0 (x := .v (.slice none 0 0)) rfl rfl rfl rfl (.assignX rfl) ?_
  refine RunT.nil ?_
  refine T.seq ?_
  refine T.region ?_
  refine RunT.ot0 (x := .v (.slice none 0 0)) rfl rfl rfl rfl (.assignX rfl) ?_
  refine RunT.nil ?_
  refine T.seq ?_
  refine T.seq ?_
  refine T.region ?_
  refine RunT.ot0 (x := .ptr 0 0) rfl rfl rfl rfl (.fieldPX fl115_0 rfl rfl) ?_
  refine RunT.ot0 (x := .ptr 0 0) rfl rfl rfl rfl (.fieldPX fl26_0 rfl rfl) ?_
  refine RunT.ot0 (x := .lst (List.map eSeat a0.V.Seats)) rfl rfl rfl rfl (.loadP ty22 rfl rfl rfl) ?_
  refine RunT.ot0 (x := .v (.int .i64 (a0.V.Seats.length : Int))) rfl rfl rfl rfl (.lenLm Try.underlying22 rfl rfl) ?_
  refine RunT.ot0 (x := .v (.int .i64 0)) rfl rfl rfl rfl (.moveX rfl) ?_
  refine RunT.nil ?_
  obtain ⟨o13, E14, HO15⟩ := bs H
  refine T.cutE (⟨[(5, .own 0 0 o13.length)], [(0, some (.arr false 1 (List.map eI o13)))], 8, []⟩) ?_ ?_
  · have H := E14
    refine T.block ?_
    refine T.loopS (fun n s => ∃ (v16 : (List Int)) (v17 : Int), place_Hall_All_l0 k a0 a1 n v16 v17 = some o13 ∧ s = ⟨[(2, .ptr 0 0), (3, .ptr 1 0), (5, .own 2 0 v16.length), (12, .v (.int .i64 (a0.V.Seats.length : Int))), (13, .v (.int .i64 v17))], [(0, some (.box [.lst (List.map eSeat a0.V.Seats), .v (.int .i64 a0.V.Gap), .v (.int .i64 a0.V.Radius), .lst (List.map eI a0.V.Kills), .lst (List.map ePole a0.V.Poles), .lst (List.map eB a0.usable)])), (1, some (.box [.v (.int .i64 a1.Size), .v (.int .i64 a1.Wheels)])), (2, some (.arr false 1 (List.map eI v16)))], 8, []⟩) k ⟨_, ⟨[], 0, H, rfl⟩, sub_to [some 0, some 8, none] (by decide) rfl rfl (⟨⟨_, rfl, .one (.ptr rfl)⟩, ⟨⟨_, rfl, .one (.ptr rfl)⟩, ⟨⟨_, rfl, .one .nilO⟩, ⟨⟨_, rfl, .one .v⟩, ⟨⟨_, rfl, .one .v⟩, trivial⟩⟩⟩⟩⟩) (⟨⟨rfl, .inl ⟨_, _, rfl, rfl, .box ⟨.lst, .v, .v, .lst, .lst, .lst, trivial⟩⟩⟩, ⟨⟨rfl, .inl ⟨_, _, rfl, rfl, .box ⟨.v, .v, trivial⟩⟩⟩, ⟨⟨rfl, .inr ⟨rfl, false, _, rfl, (by decide)⟩⟩, trivial⟩⟩⟩)⟩ ?_
    rintro n s ⟨v16, v17, H, rfl⟩
    rcases n with _ | n
    · cases (show none = some _ from H)
    rw [place_Hall_All_l0] at H
    refine T.seq ?_
    refine T.region ?_
    refine RunT.ot0 (x := .v (.bool (decide (v17 < (a0.V.Seats.length : Int))))) rfl rfl rfl rfl (.bin rfl rfl (fun w => b_lss w) rfl) ?_
    refine RunT.nil ?_
    refine T.seq ?_
    refine T.cond2 (t := decide (v17 < (a0.V.Seats.length : Int))) rfl (fun c18 => ?_) (fun c18 => ?_)
    · replace H := ct H c18
      refine T.skip ?_
      refine T.seq ?_
      refine T.block ?_
      refine T.seq ?_
      refine T.region ?_
      refine RunT.ot0 (x := .v (.int .i64 v17)) rfl rfl rfl rfl (.moveX rfl) ?_
      refine RunT.ot0 (x := .v (.int .i64 v17)) rfl rfl rfl rfl (.assignX rfl) ?_
      refine RunT.nil ?_
      refine T.seq ?_
      refine T.region ?_
      refine RunT.ot0 (x := .agg [.lst (List.map eSeat a0.V.Seats), .v (.int .i64 a0.V.Gap), .v (.int .i64 a0.V.Radius), .lst (List.map eI a0.V.Kills), .lst (List.map ePole a0.V.Poles), .lst (List.map eB a0.usable)]) rfl rfl rfl rfl (.loadP ty115 rfl rfl rfl) ?_
      refine RunT.ot0 (x := .agg [.v (.int .i64 a1.Size), .v (.int .i64 a1.Wheels)]) rfl rfl rfl rfl (.loadP ty66 rfl rfl rfl) ?_
      refine RunT.ot0 (x := .v (.int .i64 v17)) rfl rfl rfl rfl (.moveX rfl) ?_
      obtain ⟨r19, h20, H⟩ := bs H
      refine RunT.ot0 (x := .tup [.lst (List.map eI r19.1), .v (.bool r19.2)]) rfl rfl rfl rfl (.callp (PC.frozen (place_Hall_Seats_pc false k a0 a1 v17 r19 h20)) rfl ⟨(.agg' ⟨.lst, .v, .v, .lst, .lst, .lst, trivial⟩), (.agg' ⟨.v, .v, trivial⟩), (.one .v), trivial⟩ rfl rfl rfl) ?_
      refine RunT.ot0 (x := .tup [.lst (List.map eI r19.1), .v (.bool r19.2)]) rfl rfl rfl rfl (.moveX rfl) ?_
      refine RunT.ot0 (x := .lst (List.map eI r19.1)) rfl rfl rfl rfl (.extract rfl rfl) ?_
      refine RunT.ot0 (x := .v (.bool r19.2)) rfl rfl rfl rfl (.extract rfl rfl) ?_
      refine RunT.ot0 (x := .lst (List.map eI r19.1)) rfl rfl rfl rfl (.assignX rfl) ?_
      refine RunT.ot0 (x := .v (.bool r19.2)) rfl rfl rfl rfl (.assignX rfl) ?_
      refine RunT.nil ?_
      refine T.seq ?_
      refine T.sub (sub_pick [2, 3, 5, 6, 8, 12, 13] [0, 1, 2] (st' := ⟨[(2, .ptr 0 0), (3, .ptr 1 0), (5, .own 2 0 v16.length), (6, .v (.int .i64 v17)), (8, .v (.bool r19.2)), (12, .v (.int .i64 (a0.V.Seats.length : Int))), (13, .v (.int .i64 v17))], [(0, some (.box [.lst (List.map eSeat a0.V.Seats), .v (.int .i64 a0.V.Gap), .v (.int .i64 a0.V.Radius), .lst (List.map eI a0.V.Kills), .lst (List.map ePole a0.V.Poles), .lst (List.map eB a0.usable)])), (1, some (.box [.v (.int .i64 a1.Size), .v (.int .i64 a1.Wheels)])), (2, some (.arr false 1 (List.map eI v16)))], 8, []⟩) rfl rfl rfl rfl rfl) ?_
      refine T.region ?_
      refine RunT.ot0 (x := .v (.bool r19.2)) rfl rfl rfl rfl (.moveX rfl) ?_
      refine RunT.nil ?_
      refine T.cond2 (t := r19.2) rfl (fun c21 => ?_) (fun c21 => ?_)
      · replace H := ct H c21
        refine T.region ?_
        refine RunT.ot0 (x := .own 2 0 v16.length) rfl rfl rfl rfl (.moveX rfl) ?_
        refine RunT.ot0 (x := .v (.int .i64 v17)) rfl rfl rfl rfl (.moveX rfl) ?_
        refine RunT.ot1 (x := .own 8 0 (([v17]).length)) (p0 := (8, some (.arr false 1 (List.map eI [v17])))) (n' := 16) rfl rfl rfl rfl (.bslicem (d := false) (l := [v17]) (f := eI) sl23 rfl rfl rfl enc_I rfl) rfl ?_
        obtain ⟨h22, H⟩ := gs H
        refine RunT.ot2 (x := .own 16 0 ((v16 ++ [v17]).length)) (p0 := (16, some (.arr false 1 (List.map eI (v16 ++ [v17]))))) (p1 := (2, none)) (n' := 24) rfl rfl rfl rfl (.appOn (d := false) (l := v16) (m := [v17]) (f := eI) rfl sl23 rfl rfl rfl (.ownn Try.underlying23 rfl rfl (fun h => by cases h)) rfl h22) rfl ?_
        refine RunT.ot0 (x := .own 16 0 ((v16 ++ [v17]).length)) rfl rfl rfl rfl (.assignX rfl) ?_
        refine RunT.nil ?_
        refine T.region ?_
        refine RunT.ot0 (x := .v (.int .i64 (wr (v17 + 1)))) rfl rfl rfl rfl (.bin rfl rfl (fun w => b_addw w) rfl) ?_
        refine RunT.ot0 (x := .v (.int .i64 (wr (v17 + 1)))) rfl rfl rfl rfl (.moveX rfl) ?_
        refine RunT.nil ?_
        exact ⟨n, Nat.lt_succ_self n, _, ⟨v16 ++ [v17], wr (v17 + 1), H, rfl⟩, (sub_to [some 0, some 1, some 16] (by decide) rfl rfl (⟨⟨_, rfl, .one (.ptr rfl)⟩, ⟨⟨_, rfl, .one (.ptr rfl)⟩, ⟨⟨_, rfl, .one (.own rfl)⟩, ⟨⟨_, rfl, .one .v⟩, ⟨⟨_, rfl, .one .v⟩, trivial⟩⟩⟩⟩⟩) (⟨⟨rfl, .inl ⟨_, _, rfl, rfl, .box ⟨.lst, .v, .v, .lst, .lst, .lst, trivial⟩⟩⟩, ⟨⟨rfl, .inl ⟨_, _, rfl, rfl, .box ⟨.v, .v, trivial⟩⟩⟩, ⟨⟨rfl, .inl ⟨_, _, rfl, rfl, .arr rfl⟩⟩, trivial⟩⟩⟩))⟩
      · replace H := cf H c21
        refine T.skip ?_
        refine T.region ?_
        refine RunT.ot0 (x := .v (.int .i64 (wr (v17 + 1)))) rfl rfl rfl rfl (.bin rfl rfl (fun w => b_addw w) rfl) ?_
        refine RunT.ot0 (x := .v (.int .i64 (wr (v17 + 1)))) rfl rfl rfl rfl (.moveX rfl) ?_
        refine RunT.nil ?_
        exact ⟨n, Nat.lt_succ_self n, _, ⟨v16, wr (v17 + 1), H, rfl⟩, (sub_to [some 0, some 1, some 2] (by decide) rfl rfl (⟨⟨_, rfl, .one (.ptr rfl)⟩, ⟨⟨_, rfl, .one (.ptr rfl)⟩, ⟨⟨_, rfl, .one (.own rfl)⟩, ⟨⟨_, rfl, .one .v⟩, ⟨⟨_, rfl, .one .v⟩, trivial⟩⟩⟩⟩⟩) (⟨⟨rfl, .inl ⟨_, _, rfl, rfl, .box ⟨.lst, .v, .v, .lst, .lst, .lst, trivial⟩⟩⟩, ⟨⟨rfl, .inl ⟨_, _, rfl, rfl, .box ⟨.v, .v, trivial⟩⟩⟩, ⟨⟨rfl, .inl ⟨_, _, rfl, rfl, .arr rfl⟩⟩, trivial⟩⟩⟩))⟩
    · replace H := cf H c18
      refine T.exit ?_
      obtain rfl := si H
      exact (sub_to [some 2] (by decide) rfl rfl (⟨⟨_, rfl, .one (.own rfl)⟩, trivial⟩) (⟨⟨rfl, .inl ⟨_, _, rfl, rfl, .arr rfl⟩⟩, trivial⟩))
  · intro s hS
    have H := HO15
    refine T.sub hS ?_
    refine T.seq ?_
    refine T.region ?_
    refine RunT.ot0 (x := .own 0 0 o13.length) rfl rfl rfl rfl (.moveX rfl) ?_
    refine RunT.ot0 (x := .own 0 0 o13.length) rfl rfl rfl rfl (.assignX rfl) ?_
    refine RunT.nil ?_
    obtain rfl := si H
    refine T.sub (sub_to (st' := ⟨[(4, .own 0 0 ((List.map eI o13).length))], [(0, some (.arr false 1 (List.map eI o13)))], 8, []⟩) [some 0] (by decide) rfl rfl (⟨⟨_, rfl, .one (.own' rfl (List.length_map _).symm)⟩, trivial⟩) (⟨⟨rfl, .inl ⟨_, _, rfl, rfl, .arr rfl⟩⟩, trivial⟩)) ?_
    refine T.ret ?_
    exact RetOk.same [.own 0 0 ((List.map eI o13).length)] ⟨rfl, trivial⟩ rfl rfl rfl
set_option maxHeartbeats 4000000 in
theorem place_All_pc (al : Bool) (k : Nat) (a0 : Venue) (a1 : Party) (o : (List Int)) (H : place_All k a0 a1 = some o) : PC Try.prog al 58 [.agg [.lst (List.map eSeat a0.Seats), .v (.int .i64 a0.Gap), .v (.int .i64 a0.Radius), .lst (List.map eI a0.Kills), .lst (List.map ePole a0.Poles)], .agg [.v (.int .i64 a1.Size), .v (.int .i64 a1.Wheels)]] (.frs 1 (List.map eI o)) := by
  unfold place_All at H
  refine PC.of_T Try.func58 rfl rfl (n := 17) rfl rfl (.inr (flat1_frs (sz := 1) fl_I)) ?_
  intro base B w0
  refine T.st (st' := ⟨[(0, .agg [.lst (List.map eSeat a0.Seats), .v (.int .i64 a0.Gap), .v (.int .i64 a0.Radius), .lst (List.map eI a0.Kills), .lst (List.map ePole a0.Poles)]), (1, .agg [.v (.int .i64 a1.Size), .v (.int .i64 a1.Wheels)])], [], 0, []⟩) rfl ?_
  refine T.seq ?_
  refine T.region ?_
  refine RunT.ot1 (x := .ptr 0 0) (p0 := (0, some (.box [.lst (List.map eSeat a0.Seats), .v (.int .i64 a0.Gap), .v (.int .i64 a0.Radius), .lst (List.map eI a0.Kills), .lst (List.map ePole a0.Poles)]))) (n' := 8) rfl rfl rfl rfl (.boxX rfl rfl rfl) rfl ?_
  refine RunT.ot1 (x := .ptr 8 0) (p0 := (8, some (.box [.v (.int .i64 a1.Size), .v (.int .i64 a1.Wheels)]))) (n' := 16) rfl rfl rfl rfl (.boxX rfl rfl rfl) rfl ?_
  refine RunT.ot0 (x := .v (.slice none 0 0)) rfl rfl rfl rfl (.assignX rfl) ?_
  refine RunT.nil ?_
  refine T.seq ?_
  refine T.region ?_
  refine RunT.ot0 (x := .agg [.lst (List.map eSeat a0.Seats), .v (.int .i64 a0.Gap), .v (.int .i64 a0.Radius), .lst (List.map eI a0.Kills), .lst (List.map ePole a0.Poles)]) rfl rfl rfl rfl (.loadP ty26 rfl rfl rfl) ?_
  obtain ⟨r1, h2, H⟩ := bs H
  refine RunT.ot0 (x := .tup [.agg [.lst (List.map eSeat r1.1.V.Seats), .v (.int .i64 r1.1.V.Gap), .v (.int .i64 r1.1.V.Radius), .lst (List.map eI r1.1.V.Kills), .lst (List.map ePole r1.1.V.Poles), .lst (List.map eB r1.1.usable)], .v (.bool r1.2)]) rfl rfl rfl rfl (.callp (PC.frozen (place_In_pc k a0 r1 h2)) rfl ⟨(.same rfl), trivial⟩ rfl rfl rfl) ?_
  refine RunT.ot0 (x := .tup [.agg [.lst (List.map eSeat r1.1.V.Seats), .v (.int .i64 r1.1.V.Gap), .v (.int .i64 r1.1.V.Radius), .lst (List.map eI r1.1.V.Kills), .lst (List.map ePole r1.1.V.Poles), .lst (List.map eB r1.1.usable)], .v (.bool r1.2)]) rfl rfl rfl rfl (.moveX rfl) ?_
  refine RunT.ot0 (x := .agg [.lst (List.map eSeat r1.1.V.Seats), .v (.int .i64 r1.1.V.Gap), .v (.int .i64 r1.1.V.Radius), .lst (List.map eI r1.1.V.Kills), .lst (List.map ePole r1.1.V.Poles), .lst (List.map eB r1.1.usable)]) rfl rfl rfl rfl (.extract rfl rfl) ?_
  refine RunT.ot0 (x := .v (.bool r1.2)) rfl rfl rfl rfl (.extract rfl rfl) ?_
  refine RunT.ot1 (x := .ptr 16 0) (p0 := (16, some (.box [.v (.slice none 0 0), .v (.int .i64 0), .v (.int .i64 0), .v (.slice none 0 0), .v (.slice none 0 0), .v (.slice none 0 0)]))) (n' := 24) rfl rfl rfl rfl (.allocX in115.zero rfl rfl) rfl ?_
  refine RunT.on1 (x := .junk) (p0 := (16, some (.box [.lst (List.map eSeat r1.1.V.Seats), .v (.int .i64 r1.1.V.Gap), .v (.int .i64 r1.1.V.Radius), .lst (List.map eI r1.1.V.Kills), .lst (List.map ePole r1.1.V.Poles), .lst (List.map eB r1.1.usable)]))) (n' := 32) rfl rfl rfl (.storePX ty115 rfl rfl rfl rfl rfl rfl rfl) rfl ?_
  refine RunT.ot0 (x := .v (.bool r1.2)) rfl rfl rfl rfl (.assignX rfl) ?_
  refine RunT.nil ?_
  refine T.seq ?_
  refine T.seq ?_
  refine T.region ?_
  refine RunT.ot0 (x := .v (.bool r1.2)) rfl rfl rfl rfl (.moveX rfl) ?_
  refine RunT.ot0 (x := .v (.bool (!r1.2))) rfl rfl rfl rfl (.un rfl (fun w => u_not w) rfl) ?_
  refine RunT.nil ?_
  refine T.cond2 (t := !r1.2) rfl (fun c3 => ?_) (fun c3 => ?_)
  · replace H := ct H c3
    refine T.seq ?_
    refine T.region ?_
    refine RunT.ot0 (x := .v (.slice none 0 0)) rfl rfl rfl rfl (.assignX rfl) ?_
    refine RunT.nil ?_
    obtain rfl := si H
    refine T.sub (sub_to (st' := ⟨[(4, .own 0 0 0)], [(0, some (.arr false 1 (List.map eI [])))], 8, []⟩) [none] (by decide) rfl rfl (⟨⟨_, rfl, .one .nilO⟩, trivial⟩) (⟨⟨rfl, .inr ⟨rfl, false, _, rfl, (by decide)⟩⟩, trivial⟩)) ?_
    refine T.ret ?_
    exact RetOk.same [.own 0 0 0] ⟨rfl, trivial⟩ rfl rfl rfl
  · replace H := cf H c3
    refine T.skip ?_
    refine T.seq ?_
    refine T.region ?_
    refine RunT.ot0 (x := .agg [.lst (List.map eSeat r1.1.V.Seats), .v (.int .i64 r1.1.V.Gap), .v (.int .i64 r1.1.V.Radius), .lst (List.map eI r1.1.V.Kills), .lst (List.map ePole r1.1.V.Poles), .lst (List.map eB r1.1.usable)]) rfl rfl rfl rfl (.loadP ty115 rfl rfl rfl) ?_
    refine RunT.ot0 (x := .agg [.v (.int .i64 a1.Size), .v (.int .i64 a1.Wheels)]) rfl rfl rfl rfl (.loadP ty66 rfl rfl rfl) ?_
    obtain ⟨r4, h5, H⟩ := bs H
    refine RunT.ot1 (x := .own 32 0 ((List.map eI r4).length)) (p0 := (32, some (.arr false 1 (List.map eI r4)))) (n' := 40) rfl rfl rfl rfl (.callp (place_Hall_All_pc false k r1.1 a1 r4 h5) rfl ⟨(.agg' ⟨.lst, .v, .v, .lst, .lst, .lst, trivial⟩), (.agg' ⟨.v, .v, trivial⟩), trivial⟩ rfl rfl rfl) rfl ?_
    refine RunT.ot0 (x := .own 32 0 ((List.map eI r4).length)) rfl rfl rfl rfl (.assignX rfl) ?_
    refine RunT.nil ?_
    obtain rfl := si H
    refine T.sub (sub_to (st' := ⟨[(4, .own 0 0 ((List.map eI r4).length))], [(0, some (.arr false 1 (List.map eI r4)))], 8, []⟩) [some 32] (by decide) rfl rfl (⟨⟨_, rfl, .one (.own' rfl ((List.length_map _).trans (List.length_map _).symm))⟩, trivial⟩) (⟨⟨rfl, .inl ⟨_, _, rfl, rfl, .arr rfl⟩⟩, trivial⟩)) ?_
    refine T.ret ?_
    exact RetOk.same [.own 0 0 ((List.map eI r4).length)] ⟨rfl, trivial⟩ rfl rfl rfl
set_option maxHeartbeats 4000000 in
theorem place_Seats_pc (al : Bool) (k : Nat) (a0 : Venue) (a1 : Party) (a2 : Int) (o : (List Int) × Bool) (H : place_Seats k a0 a1 a2 = some o) : PC Try.prog al 61 [.agg [.lst (List.map eSeat a0.Seats), .v (.int .i64 a0.Gap), .v (.int .i64 a0.Radius), .lst (List.map eI a0.Kills), .lst (List.map ePole a0.Poles)], .agg [.v (.int .i64 a1.Size), .v (.int .i64 a1.Wheels)], .v (.int .i64 a2)] (.tup [.frs 1 (List.map eI o.1), .v (.bool o.2)]) := by
  unfold place_Seats at H
  refine PC.of_T Try.func61 rfl rfl (n := 23) rfl rfl (.inr (flatT_tup ⟨(flat1_frs (sz := 1) fl_I), rfl, trivial⟩)) ?_
  intro base B w0
  refine T.st (st' := ⟨[(0, .agg [.lst (List.map eSeat a0.Seats), .v (.int .i64 a0.Gap), .v (.int .i64 a0.Radius), .lst (List.map eI a0.Kills), .lst (List.map ePole a0.Poles)]), (1, .agg [.v (.int .i64 a1.Size), .v (.int .i64 a1.Wheels)]), (2, .v (.int .i64 a2))], [], 0, []⟩) rfl ?_
  refine T.seq ?_
  refine T.region ?_
  refine RunT.ot1 (x := .ptr 0 0) (p0 := (0, some (.box [.lst (List.map eSeat a0.Seats), .v (.int .i64 a0.Gap), .v (.int .i64 a0.Radius), .lst (List.map eI a0.Kills), .lst (List.map ePole a0.Poles)]))) (n' := 8) rfl rfl rfl rfl (.boxX rfl rfl rfl) rfl ?_
  refine RunT.ot1 (x := .ptr 8 0) (p0 := (8, some (.box [.v (.int .i64 a1.Size), .v (.int .i64 a1.Wheels)]))) (n' := 16) rfl rfl rfl rfl (.boxX rfl rfl rfl) rfl ?_
  refine RunT.ot0 (x := .v (.slice none 0 0)) rfl rfl rfl rfl (.assignX rfl) ?_
  refine RunT.ot0 (x := .v (.bool false)) rfl rfl rfl rfl (.assignX rfl) ?_
  refine RunT.nil ?_
  refine T.seq ?_
  refine T.region ?_
  refine RunT.ot0 (x := .agg [.lst (List.map eSeat a0.Seats), .v (.int .i64 a0.Gap), .v (.int .i64 a0.Radius), .lst (List.map eI a0.Kills), .lst (List.map ePole a0.Poles)]) rfl rfl rfl rfl (.loadP ty26 rfl rfl rfl) ?_
  obtain ⟨r1, h2, H⟩ := bs H
  refine RunT.ot0 (x := .tup [.agg [.lst (List.map eSeat r1.1.V.Seats), .v (.int .i64 r1.1.V.Gap), .v (.int .i64 r1.1.V.Radius), .lst (List.map eI r1.1.V.Kills), .lst (List.map ePole r1.1.V.Poles), .lst (List.map eB r1.1.usable)], .v (.bool r1.2)]) rfl rfl rfl rfl (.callp (PC.frozen (place_In_pc k a0 r1 h2)) rfl ⟨(.same rfl), trivial⟩ rfl rfl rfl) ?_
  refine RunT.ot0 (x := .tup [.agg [.lst (List.map eSeat r1.1.V.Seats), .v (.int .i64 r1.1.V.Gap), .v (.int .i64 r1.1.V.Radius), .lst (List.map eI r1.1.V.Kills), .lst (List.map ePole r1.1.V.Poles), .lst (List.map eB r1.1.usable)], .v (.bool r1.2)]) rfl rfl rfl rfl (.moveX rfl) ?_
  refine RunT.ot0 (x := .agg [.lst (List.map eSeat r1.1.V.Seats), .v (.int .i64 r1.1.V.Gap), .v (.int .i64 r1.1.V.Radius), .lst (List.map eI r1.1.V.Kills), .lst (List.map ePole r1.1.V.Poles), .lst (List.map eB r1.1.usable)]) rfl rfl rfl rfl (.extract rfl rfl) ?_
  refine RunT.ot0 (x := .v (.bool r1.2)) rfl rfl rfl rfl (.extract rfl rfl) ?_
  refine RunT.ot1 (x := .ptr 16 0) (p0 := (16, some (.box [.v (.slice none 0 0), .v (.int .i64 0), .v (.int .i64 0), .v (.slice none 0 0), .v (.slice none 0 0), .v (.slice none 0 0)]))) (n' := 24) rfl rfl rfl rfl (.allocX in115.zero rfl rfl) rfl ?_
  refine RunT.on1 (x := .junk) (p0 := (16, some (.box [.lst (List.map eSeat r1.1.V.Seats), .v (.int .i64 r1.1.V.Gap), .v (.int .i64 r1.1.V.Radius), .lst (List.map eI r1.1.V.Kills), .lst (List.map ePole r1.1.V.Poles), .lst (List.map eB r1.1.usable)]))) (n' := 32) rfl rfl rfl (.storePX ty115 rfl rfl rfl rfl rfl rfl rfl) rfl ?_
  refine RunT.ot0 (x := .v (.bool r1.2)) rfl rfl rfl rfl (.assignX rfl) ?_
  refine RunT.nil ?_
  refine T.seq ?_
  refine T.seq ?_
  refine T.region ?_
  refine RunT.ot0 (x := .v (.bool r1.2)) rfl rfl rfl rfl (.moveX rfl) ?_
  refine RunT.ot0 (x := .v (.bool (!r1.2))) rfl rfl rfl rfl (.un rfl (fun w => u_not w) rfl) ?_
  refine RunT.nil ?_
  refine T.cond2 (t := !r1.2) rfl (fun c3 => ?_) (fun c3 => ?_)
  · replace H := ct H c3
    refine T.seq ?_
    refine T.region ?_
    refine RunT.ot0 (x := .v (.slice none 0 0)) rfl rfl rfl rfl (.assignX rfl) ?_
    refine RunT.ot0 (x := .v (.bool false)) rfl rfl rfl rfl (.assignX rfl) ?_
    refine RunT.nil ?_
    obtain rfl := si H
    refine T.sub (sub_to (st' := ⟨[(6, .own 0 0 0), (7, .v (.bool false))], [(0, some (.arr false 1 (List.map eI [])))], 8, []⟩) [none] (by decide) rfl rfl (⟨⟨_, rfl, .one .nilO⟩, ⟨⟨_, rfl, .one .v⟩, trivial⟩⟩) (⟨⟨rfl, .inr ⟨rfl, false, _, rfl, (by decide)⟩⟩, trivial⟩)) ?_
    refine T.ret ?_
    exact RetOk.same [.own 0 0 0, .v (.bool false)] ⟨rfl, rfl, trivial⟩ rfl rfl rfl
  · replace H := cf H c3
    refine T.skip ?_
    refine T.seq ?_
    refine T.sub (sub_pick [2, 4, 8] [8, 16] (st' := ⟨[(2, .v (.int .i64 a2)), (4, .ptr 8 0), (8, .ptr 16 0)], [(8, some (.box [.v (.int .i64 a1.Size), .v (.int .i64 a1.Wheels)])), (16, some (.box [.lst (List.map eSeat r1.1.V.Seats), .v (.int .i64 r1.1.V.Gap), .v (.int .i64 r1.1.V.Radius), .lst (List.map eI r1.1.V.Kills), .lst (List.map ePole r1.1.V.Poles), .lst (List.map eB r1.1.usable)]))], 32, []⟩) rfl rfl rfl rfl rfl) ?_
    refine T.region ?_
    refine RunT.ot0 (x := .agg [.lst (List.map eSeat r1.1.V.Seats), .v (.int .i64 r1.1.V.Gap), .v (.int .i64 r1.1.V.Radius), .lst (List.map eI r1.1.V.Kills), .lst (List.map ePole r1.1.V.Poles), .lst (List.map eB r1.1.usable)]) rfl rfl rfl rfl (.loadP ty115 rfl rfl rfl) ?_
    refine RunT.ot0 (x := .agg [.v (.int .i64 a1.Size), .v (.int .i64 a1.Wheels)]) rfl rfl rfl rfl (.loadP ty66 rfl rfl rfl) ?_
    refine RunT.ot0 (x := .v (.int .i64 a2)) rfl rfl rfl rfl (.moveX rfl) ?_
    obtain ⟨r4, h5, H⟩ := bs H
    refine RunT.ot1 (x := .tup [.own 32 0 ((List.map eI r4.1).length), .v (.bool r4.2)]) (p0 := (32, some (.arr false 1 (List.map eI r4.1)))) (n' := 40) rfl rfl rfl rfl (.callp (place_Hall_Seats_pc false k r1.1 a1 a2 r4 h5) rfl ⟨(.agg' ⟨.lst, .v, .v, .lst, .lst, .lst, trivial⟩), (.agg' ⟨.v, .v, trivial⟩), (.one .v), trivial⟩ rfl rfl rfl) rfl ?_
    refine RunT.ot0 (x := .own 32 0 ((List.map eI r4.1).length)) rfl rfl rfl rfl (.extract rfl rfl) ?_
    refine RunT.ot0 (x := .v (.bool r4.2)) rfl rfl rfl rfl (.extract rfl rfl) ?_
    refine RunT.ot0 (x := .own 32 0 ((List.map eI r4.1).length)) rfl rfl rfl rfl (.assignX rfl) ?_
    refine RunT.ot0 (x := .v (.bool r4.2)) rfl rfl rfl rfl (.assignX rfl) ?_
    refine RunT.nil ?_
    obtain rfl := si H
    refine T.sub (sub_to (st' := ⟨[(6, .own 0 0 ((List.map eI r4.1).length)), (7, .v (.bool r4.2))], [(0, some (.arr false 1 (List.map eI r4.1)))], 8, []⟩) [some 32] (by decide) rfl rfl (⟨⟨_, rfl, .one (.own' rfl ((List.length_map _).trans (List.length_map _).symm))⟩, ⟨⟨_, rfl, .one .v⟩, trivial⟩⟩) (⟨⟨rfl, .inl ⟨_, _, rfl, rfl, .arr rfl⟩⟩, trivial⟩)) ?_
    refine T.ret ?_
    exact RetOk.same [.own 0 0 ((List.map eI r4.1).length), .v (.bool r4.2)] ⟨rfl, rfl, trivial⟩ rfl rfl rfl
set_option maxHeartbeats 4000000 in
theorem place_May_pc (al : Bool) (k : Nat) (a0 : Venue) (a1 : Party) (a2 : Int) (o : Bool) (H : place_May k a0 a1 a2 = some o) : PC Try.prog al 62 [.agg [.lst (List.map eSeat a0.Seats), .v (.int .i64 a0.Gap), .v (.int .i64 a0.Radius), .lst (List.map eI a0.Kills), .lst (List.map ePole a0.Poles)], .agg [.v (.int .i64 a1.Size), .v (.int .i64 a1.Wheels)], .v (.int .i64 a2)] (.v (.bool o)) := by
  unfold place_May at H
  refine PC.of_T Try.func62 rfl rfl (n := 17) rfl rfl (.inr rfl) ?_
  intro base B w0
  refine T.st (st' := ⟨[(0, .agg [.lst (List.map eSeat a0.Seats), .v (.int .i64 a0.Gap), .v (.int .i64 a0.Radius), .lst (List.map eI a0.Kills), .lst (List.map ePole a0.Poles)]), (1, .agg [.v (.int .i64 a1.Size), .v (.int .i64 a1.Wheels)]), (2, .v (.int .i64 a2))], [], 0, []⟩) rfl ?_
  refine T.seq ?_
  refine T.region ?_
  refine RunT.ot1 (x := .ptr 0 0) (p0 := (0, some (.box [.lst (List.map eSeat a0.Seats), .v (.int .i64 a0.Gap), .v (.int .i64 a0.Radius), .lst (List.map eI a0.Kills), .lst (List.map ePole a0.Poles)]))) (n' := 8) rfl rfl rfl rfl (.boxX rfl rfl rfl) rfl ?_
  refine RunT.ot1 (x := .ptr 8 0) (p0 := (8, some (.box [.v (.int .i64 a1.Size), .v (.int .i64 a1.Wheels)]))) (n' := 16) rfl rfl rfl rfl (.boxX rfl rfl rfl) rfl ?_
  refine RunT.ot0 (x := .v (.bool false)) rfl rfl rfl rfl (.assignX rfl) ?_
  refine RunT.nil ?_
  refine T.seq ?_
  refine T.region ?_
  refine RunT.ot0 (x := .agg [.lst (List.map eSeat a0.Seats), .v (.int .i64 a0.Gap), .v (.int .i64 a0.Radius), .lst (List.map eI a0.Kills), .lst (List.map ePole a0.Poles)]) rfl rfl rfl rfl (.loadP ty26 rfl rfl rfl) ?_
  refine RunT.ot0 (x := .agg [.v (.int .i64 a1.Size), .v (.int .i64 a1.Wheels)]) rfl rfl rfl rfl (.loadP ty66 rfl rfl rfl) ?_
  refine RunT.ot0 (x := .v (.int .i64 a2)) rfl rfl rfl rfl (.moveX rfl) ?_
  obtain ⟨r1, h2, H⟩ := bs H
  refine RunT.ot0 (x := .tup [.lst (List.map eI r1.1), .v (.bool r1.2)]) rfl rfl rfl rfl (.callp (PC.frozen (place_Seats_pc false k a0 a1 a2 r1 h2)) rfl ⟨(.agg' ⟨.lst, .v, .v, .lst, .lst, trivial⟩), (.agg' ⟨.v, .v, trivial⟩), (.one .v), trivial⟩ rfl rfl rfl) ?_
  refine RunT.ot0 (x := .tup [.lst (List.map eI r1.1), .v (.bool r1.2)]) rfl rfl rfl rfl (.moveX rfl) ?_
  refine RunT.ot0 (x := .lst (List.map eI r1.1)) rfl rfl rfl rfl (.extract rfl rfl) ?_
  refine RunT.ot0 (x := .v (.bool r1.2)) rfl rfl rfl rfl (.extract rfl rfl) ?_
  refine RunT.ot0 (x := .lst (List.map eI r1.1)) rfl rfl rfl rfl (.assignX rfl) ?_
  refine RunT.ot0 (x := .v (.bool r1.2)) rfl rfl rfl rfl (.assignX rfl) ?_
  refine RunT.nil ?_
  refine T.seq ?_
  refine T.region ?_
  refine RunT.ot0 (x := .v (.bool r1.2)) rfl rfl rfl rfl (.moveX rfl) ?_
  refine RunT.ot0 (x := .v (.bool r1.2)) rfl rfl rfl rfl (.assignX rfl) ?_
  refine RunT.nil ?_
  obtain rfl := si H
  refine T.sub (sub_to (st' := ⟨[(6, .v (.bool r1.2))], [], 8, []⟩) [] (by decide) rfl rfl (⟨⟨_, rfl, .one .v⟩, trivial⟩) (trivial)) ?_
  refine T.ret ?_
  exact RetOk.same [.v (.bool r1.2)] ⟨rfl, trivial⟩ rfl rfl rfl
set_option maxHeartbeats 4000000 in
theorem place_Hall_Apart_pc (al : Bool) (k : Nat) (a0 : PlaceHall) (a1 : Party) (a2 : Int) (a3 : Party) (a4 : Int) (o : Bool) (H : place_Hall_Apart k a0 a1 a2 a3 a4 = some o) : PC Try.prog al 112 [.agg [.lst (List.map eSeat a0.V.Seats), .v (.int .i64 a0.V.Gap), .v (.int .i64 a0.V.Radius), .lst (List.map eI a0.V.Kills), .lst (List.map ePole a0.V.Poles), .lst (List.map eB a0.usable)], .agg [.v (.int .i64 a1.Size), .v (.int .i64 a1.Wheels)], .v (.int .i64 a2), .agg [.v (.int .i64 a3.Size), .v (.int .i64 a3.Wheels)], .v (.int .i64 a4)] (.v (.bool o)) := by
  unfold place_Hall_Apart at H
  refine PC.of_T Try.func112 rfl rfl (n := 52) rfl rfl (.inr rfl) ?_
  intro base B w0
  refine T.st (st' := ⟨[(0, .agg [.lst (List.map eSeat a0.V.Seats), .v (.int .i64 a0.V.Gap), .v (.int .i64 a0.V.Radius), .lst (List.map eI a0.V.Kills), .lst (List.map ePole a0.V.Poles), .lst (List.map eB a0.usable)]), (1, .agg [.v (.int .i64 a1.Size), .v (.int .i64 a1.Wheels)]), (2, .v (.int .i64 a2)), (3, .agg [.v (.int .i64 a3.Size), .v (.int .i64 a3.Wheels)]), (4, .v (.int .i64 a4))], [], 0, []⟩) rfl ?_
  refine T.seq ?_
  refine T.region ?_
  refine RunT.ot1 (x := .ptr 0 0) (p0 := (0, some (.box [.lst (List.map eSeat a0.V.Seats), .v (.int .i64 a0.V.Gap), .v (.int .i64 a0.V.Radius), .lst (List.map eI a0.V.Kills), .lst (List.map ePole a0.V.Poles), .lst (List.map eB a0.usable)]))) (n' := 8) rfl rfl rfl rfl (.boxX rfl rfl rfl) rfl ?_
  refine RunT.ot1 (x := .ptr 8 0) (p0 := (8, some (.box [.v (.int .i64 a1.Size), .v (.int .i64 a1.Wheels)]))) (n' := 16) rfl rfl rfl rfl (.boxX rfl rfl rfl) rfl ?_
  refine RunT.ot1 (x := .ptr 16 0) (p0 := (16, some (.box [.v (.int .i64 a3.Size), .v (.int .i64 a3.Wheels)]))) (n' := 24) rfl rfl rfl rfl (.boxX rfl rfl rfl) rfl ?_
  refine RunT.ot0 (x := .v (.bool false)) rfl rfl rfl rfl (.assignX rfl) ?_
  refine RunT.nil ?_
  refine T.seq ?_
  refine T.seq ?_
  refine T.region ?_
  refine RunT.ot0 (x := .v (.int .i64 a2)) rfl rfl rfl rfl (.moveX rfl) ?_
  refine RunT.ot0 (x := .v (.int .i64 a2)) rfl rfl rfl rfl (.assignX rfl) ?_
  refine RunT.nil ?_
  obtain ⟨o70, E71, HO72⟩ := bs H
  refine T.cutPE (fun v73 => o70 = .go v73) (fun v73 => ⟨[], [], 8, []⟩) ?_ ?_
  · have H := E71
    refine T.block ?_
    refine T.loopS (fun n s => ∃ (v74 : Int), place_Hall_Apart_l2 k a0 a1 a2 a3 a4 n v74 = some o70 ∧ s = ⟨[(2, .v (.int .i64 a2)), (4, .v (.int .i64 a4)), (5, .ptr 0 0), (6, .ptr 1 0), (8, .ptr 2 0), (11, .v (.int .i64 v74))], [(0, some (.box [.lst (List.map eSeat a0.V.Seats), .v (.int .i64 a0.V.Gap), .v (.int .i64 a0.V.Radius), .lst (List.map eI a0.V.Kills), .lst (List.map ePole a0.V.Poles), .lst (List.map eB a0.usable)])), (1, some (.box [.v (.int .i64 a1.Size), .v (.int .i64 a1.Wheels)])), (2, some (.box [.v (.int .i64 a3.Size), .v (.int .i64 a3.Wheels)]))], 8, []⟩) k ⟨_, ⟨a2, H, rfl⟩, sub_to [some 0, some 8, some 16] (by decide) rfl rfl (⟨⟨_, rfl, .one .v⟩, ⟨⟨_, rfl, .one .v⟩, ⟨⟨_, rfl, .one (.ptr rfl)⟩, ⟨⟨_, rfl, .one (.ptr rfl)⟩, ⟨⟨_, rfl, .one (.ptr rfl)⟩, ⟨⟨_, rfl, .one .v⟩, trivial⟩⟩⟩⟩⟩⟩) (⟨⟨rfl, .inl ⟨_, _, rfl, rfl, .box ⟨.lst, .v, .v, .lst, .lst, .lst, trivial⟩⟩⟩, ⟨⟨rfl, .inl ⟨_, _, rfl, rfl, .box ⟨.v, .v, trivial⟩⟩⟩, ⟨⟨rfl, .inl ⟨_, _, rfl, rfl, .box ⟨.v, .v, trivial⟩⟩⟩, trivial⟩⟩⟩)⟩ ?_
    rintro n s ⟨v74, H, rfl⟩
    rcases n with _ | n
    · cases (show none = some _ from H)
    rw [place_Hall_Apart_l2] at H
    refine T.seq ?_
    refine T.seq ?_
    refine T.region ?_
    refine RunT.ot0 (x := .v (.int .i64 v74)) rfl rfl rfl rfl (.moveX rfl) ?_
    refine RunT.ot0 (x := .v (.int .i64 a2)) rfl rfl rfl rfl (.moveX rfl) ?_
    refine RunT.ot0 (x := .ptr 1 0) rfl rfl rfl rfl (.fieldPX fl66_0 rfl rfl) ?_
    refine RunT.ot0 (x := .v (.int .i64 a1.Size)) rfl rfl rfl rfl (.loadP ty3 rfl rfl rfl) ?_
    refine RunT.ot0 (x := .v (.int .i64 (wr (a2 + a1.Size)))) rfl rfl rfl rfl (.bin rfl rfl (fun w => b_addw w) rfl) ?_
    refine RunT.ot0 (x := .v (.bool (decide (v74 < (wr (a2 + a1.Size)))))) rfl rfl rfl rfl (.bin rfl rfl (fun w => b_lss w) rfl) ?_
    refine RunT.nil ?_
    refine T.cond2 (t := decide (v74 < (wr (a2 + a1.Size)))) rfl (fun c75 => ?_) (fun c75 => ?_)
    · replace H := ct H c75
      refine T.skip ?_
      refine T.seq ?_
      refine T.block ?_
      refine T.seq ?_
      refine T.region ?_
      refine RunT.ot0 (x := .v (.int .i64 a4)) rfl rfl rfl rfl (.moveX rfl) ?_
      refine RunT.ot0 (x := .v (.int .i64 a4)) rfl rfl rfl rfl (.assignX rfl) ?_
      refine RunT.nil ?_
      obtain ⟨o95, E96, HO97⟩ := bs H
      refine T.cutPE (fun v98 => o95 = .go v98) (fun v98 => ⟨[(2, .v (.int .i64 a2)), (4, .v (.int .i64 a4)), (5, .ptr 0 0), (6, .ptr 1 0), (8, .ptr 2 0), (11, .v (.int .i64 v74))], [(0, some (.box [.lst (List.map eSeat a0.V.Seats), .v (.int .i64 a0.V.Gap), .v (.int .i64 a0.V.Radius), .lst (List.map eI a0.V.Kills), .lst (List.map ePole a0.V.Poles), .lst (List.map eB a0.usable)])), (1, some (.box [.v (.int .i64 a1.Size), .v (.int .i64 a1.Wheels)])), (2, some (.box [.v (.int .i64 a3.Size), .v (.int .i64 a3.Wheels)]))], 8, []⟩) ?_ ?_
      · have H := E96
        refine T.block ?_
        refine T.loopS (fun n s => ∃ (v99 : Int), place_Hall_Apart_l3 k a0 a3 a4 v74 n v99 = some o95 ∧ s = ⟨[(2, .v (.int .i64 a2)), (4, .v (.int .i64 a4)), (5, .ptr 0 0), (6, .ptr 1 0), (8, .ptr 2 0), (11, .v (.int .i64 v74)), (12, .v (.int .i64 v99))], [(0, some (.box [.lst (List.map eSeat a0.V.Seats), .v (.int .i64 a0.V.Gap), .v (.int .i64 a0.V.Radius), .lst (List.map eI a0.V.Kills), .lst (List.map ePole a0.V.Poles), .lst (List.map eB a0.usable)])), (1, some (.box [.v (.int .i64 a1.Size), .v (.int .i64 a1.Wheels)])), (2, some (.box [.v (.int .i64 a3.Size), .v (.int .i64 a3.Wheels)]))], 8, []⟩) k ⟨_, ⟨a4, H, rfl⟩, sub_to [some 0, some 1, some 2] (by decide) rfl rfl (⟨⟨_, rfl, .one .v⟩, ⟨⟨_, rfl, .one .v⟩, ⟨⟨_, rfl, .one (.ptr rfl)⟩, ⟨⟨_, rfl, .one (.ptr rfl)⟩, ⟨⟨_, rfl, .one (.ptr rfl)⟩, ⟨⟨_, rfl, .one .v⟩, ⟨⟨_, rfl, .one .v⟩, trivial⟩⟩⟩⟩⟩⟩⟩) (⟨⟨rfl, .inl ⟨_, _, rfl, rfl, .box ⟨.lst, .v, .v, .lst, .lst, .lst, trivial⟩⟩⟩, ⟨⟨rfl, .inl ⟨_, _, rfl, rfl, .box ⟨.v, .v, trivial⟩⟩⟩, ⟨⟨rfl, .inl ⟨_, _, rfl, rfl, .box ⟨.v, .v, trivial⟩⟩⟩, trivial⟩⟩⟩)⟩ ?_
        rintro n s ⟨v99, H, rfl⟩
        rcases n with _ | n
        · cases (show none = some _ from H)
        rw [place_Hall_Apart_l3] at H
        refine T.seq ?_
        refine T.seq ?_
        refine T.region ?_
        refine RunT.ot0 (x := .v (.int .i64 v99)) rfl rfl rfl rfl (.moveX rfl) ?_
        refine RunT.ot0 (x := .v (.int .i64 a4)) rfl rfl rfl rfl (.moveX rfl) ?_
        refine RunT.ot0 (x := .ptr 2 0) rfl rfl rfl rfl (.fieldPX fl66_0 rfl rfl) ?_
        refine RunT.ot0 (x := .v (.int .i64 a3.Size)) rfl rfl rfl rfl (.loadP ty3 rfl rfl rfl) ?_
        refine RunT.ot0 (x := .v (.int .i64 (wr (a4 + a3.Size)))) rfl rfl rfl rfl (.bin rfl rfl (fun w => b_addw w) rfl) ?_
        refine RunT.ot0 (x := .v (.bool (decide (v99 < (wr (a4 + a3.Size)))))) rfl rfl rfl rfl (.bin rfl rfl (fun w => b_lss w) rfl) ?_
        refine RunT.nil ?_
        refine T.cond2 (t := decide (v99 < (wr (a4 + a3.Size)))) rfl (fun c100 => ?_) (fun c100 => ?_)
        · replace H := ct H c100
          refine T.skip ?_
          refine T.seq ?_
          refine T.block ?_
          refine T.seq ?_
          refine T.draw (wr := []) mixed rfl rfl ?_ rfl
          refine RunD.ot0 (x := .v (.int .i64 v74)) rfl rfl rfl rfl (.moveX rfl) rfl ?_
          refine RunD.ot0 (x := .v (.int .i64 v99)) rfl rfl rfl rfl (.moveX rfl) rfl ?_
          refine RunD.ot0 (x := .v (.bool (decide (v74 = v99)))) rfl rfl rfl rfl (.bin rfl rfl (fun w => b_eql w) rfl) rfl ?_
          refine RunD.ot0 (x := .v (.bool (decide (v74 = v99)))) rfl rfl rfl rfl (.moveX rfl) rfl ?_
          refine RunD.cases (t := 34) (c := decide (v74 = v99)) rfl (fun g108 => ?_) (fun g108 => ?_)
          · replace H := ct H g108
            refine RunD.xn rfl rfl rfl (bo g108) rfl rfl ?_
            refine RunD.xn rfl rfl rfl (bo g108) rfl rfl ?_
            refine RunD.xn rfl rfl rfl (bo g108) rfl rfl ?_
            refine RunD.xn rfl rfl rfl (bo g108) rfl rfl ?_
            refine RunD.xn rfl rfl rfl (bo g108) rfl rfl ?_
            refine RunD.xn rfl rfl rfl (bo g108) rfl rfl ?_
            refine RunD.xn rfl rfl rfl (bo g108) rfl rfl ?_
            refine RunD.xn rfl rfl rfl (bo g108) rfl rfl ?_
            refine RunD.xn rfl rfl rfl (bo g108) rfl rfl ?_
            refine RunD.xn rfl rfl rfl (bo g108) rfl rfl ?_
            refine RunD.xn rfl rfl rfl (bo g108) rfl rfl ?_
            refine RunD.xn rfl rfl rfl (bo g108) rfl rfl ?_
            refine RunD.xn rfl rfl rfl (bo g108) rfl rfl ?_
            refine RunD.xn rfl rfl rfl (bo g108) rfl rfl ?_
            refine RunD.xn rfl rfl rfl (bo g108) rfl rfl ?_
            refine RunD.xn rfl rfl rfl (bo g108) rfl rfl ?_
            refine RunD.ot0 (x := .v (.bool true)) rfl rfl rfl rfl (.pickT (bo g108) rfl) rfl ?_
            refine RunD.nil (by kernel_rfl) ⟨rfl, rfl, ?_⟩
            refine T.condT rfl ?_
            refine T.seq ?_
            refine T.sub (sub_pick [] [] (st' := ⟨[], [], 176, []⟩) rfl rfl rfl rfl rfl) ?_
            refine T.region ?_
            refine RunT.ot0 (x := .v (.bool false)) rfl rfl rfl rfl (.assignX rfl) ?_
            refine RunT.nil ?_
            obtain rfl := si H
            have HX := exr HO97
            obtain rfl := si HX
            have HX := exr HO72
            obtain rfl := si HX
            refine T.sub (sub_to (st' := ⟨[(10, .v (.bool false))], [], 8, []⟩) [] (by decide) rfl rfl (⟨⟨_, rfl, .one .v⟩, trivial⟩) (trivial)) ?_
            refine T.ret ?_
            exact RetOk.same [.v (.bool false)] ⟨rfl, trivial⟩ rfl rfl rfl
          · replace H := cf H g108
            refine RunD.gt0 (x := .ptr 0 0) rfl rfl rfl (bo g108) rfl rfl (.fieldPX fl115_0 rfl rfl) rfl ?_
            refine RunD.gt0 (x := .ptr 0 0) rfl rfl rfl (bo g108) rfl rfl (.fieldPX fl26_0 rfl rfl) rfl ?_
            refine RunD.gt0 (x := .lst (List.map eSeat a0.V.Seats)) rfl rfl rfl (bo g108) rfl rfl (.loadP ty22 rfl rfl rfl) rfl ?_
            refine RunD.gt0 (x := .v (.int .i64 v74)) rfl rfl rfl (bo g108) rfl rfl (.moveX rfl) rfl ?_
            obtain ⟨y109, h110, H⟩ := bs H
            refine RunD.gt0 (x := .rptr [.v (.int .i64 y109.Row), .v (.int .i64 y109.X), .v (.int .i64 y109.Y), .v (.int .i64 y109.Kind)]) rfl rfl rfl (bo g108) rfl rfl (.idxLX h110 enc_Seat sl22 rfl rfl rfl) rfl ?_
            refine RunD.gt0 (x := .agg [.v (.int .i64 y109.Row), .v (.int .i64 y109.X), .v (.int .i64 y109.Y), .v (.int .i64 y109.Kind)]) rfl rfl rfl (bo g108) rfl rfl (.loadR ty28 rfl rfl) rfl ?_
            refine RunD.gt0 (x := .ptr 0 0) rfl rfl rfl (bo g108) rfl rfl (.fieldPX fl115_0 rfl rfl) rfl ?_
            refine RunD.gt0 (x := .ptr 0 0) rfl rfl rfl (bo g108) rfl rfl (.fieldPX fl26_0 rfl rfl) rfl ?_
            refine RunD.gt0 (x := .lst (List.map eSeat a0.V.Seats)) rfl rfl rfl (bo g108) rfl rfl (.loadP ty22 rfl rfl rfl) rfl ?_
            refine RunD.gt0 (x := .v (.int .i64 v99)) rfl rfl rfl (bo g108) rfl rfl (.moveX rfl) rfl ?_
            obtain ⟨y111, h112, H⟩ := bs H
            refine RunD.gt0 (x := .rptr [.v (.int .i64 y111.Row), .v (.int .i64 y111.X), .v (.int .i64 y111.Y), .v (.int .i64 y111.Kind)]) rfl rfl rfl (bo g108) rfl rfl (.idxLX h112 enc_Seat sl22 rfl rfl rfl) rfl ?_
            refine RunD.gt0 (x := .agg [.v (.int .i64 y111.Row), .v (.int .i64 y111.X), .v (.int .i64 y111.Y), .v (.int .i64 y111.Kind)]) rfl rfl rfl (bo g108) rfl rfl (.loadR ty28 rfl rfl) rfl ?_
            refine RunD.gt0 (x := .ptr 0 0) rfl rfl rfl (bo g108) rfl rfl (.fieldPX fl115_0 rfl rfl) rfl ?_
            refine RunD.gt0 (x := .ptr 0 2) rfl rfl rfl (bo g108) rfl rfl (.fieldPX fl26_2 rfl rfl) rfl ?_
            refine RunD.gt0 (x := .v (.int .i64 a0.V.Radius)) rfl rfl rfl (bo g108) rfl rfl (.loadP ty3 rfl rfl rfl) rfl ?_
            obtain ⟨r113, h114, H⟩ := bs H
            refine RunD.gt0 (x := .v (.bool r113)) rfl rfl rfl (bo g108) rfl rfl (.callp (geom_Close_pc false k y109 y111 a0.V.Radius r113 h114) rfl ⟨(.agg' ⟨.v, .v, .v, .v, trivial⟩), (.agg' ⟨.v, .v, .v, .v, trivial⟩), (.one .v), trivial⟩ rfl rfl rfl) rfl ?_
            refine RunD.ot0 (x := .v (.bool r113)) rfl rfl rfl rfl (.pickF (bo g108) rfl) rfl ?_
            refine RunD.nil (by kernel_rfl) ⟨rfl, rfl, ?_⟩
            refine T.cond2 (t := r113) rfl (fun c115 => ?_) (fun c115 => ?_)
            · replace H := ct H c115
              refine T.seq ?_
              refine T.sub (sub_pick [] [] (st' := ⟨[], [], 176, []⟩) rfl rfl rfl rfl rfl) ?_
              refine T.region ?_
              refine RunT.ot0 (x := .v (.bool false)) rfl rfl rfl rfl (.assignX rfl) ?_
              refine RunT.nil ?_
              obtain rfl := si H
              have HX := exr HO97
              obtain rfl := si HX
              have HX := exr HO72
              obtain rfl := si HX
              refine T.sub (sub_to (st' := ⟨[(10, .v (.bool false))], [], 8, []⟩) [] (by decide) rfl rfl (⟨⟨_, rfl, .one .v⟩, trivial⟩) (trivial)) ?_
              refine T.ret ?_
              exact RetOk.same [.v (.bool false)] ⟨rfl, trivial⟩ rfl rfl rfl
            · replace H := cf H c115
              refine T.skip ?_
              refine T.region ?_
              refine RunT.ot0 (x := .v (.int .i64 v99)) rfl rfl rfl rfl (.moveX rfl) ?_
              refine RunT.ot0 (x := .v (.int .i64 (wr (v99 + 1)))) rfl rfl rfl rfl (.bin rfl rfl (fun w => b_addw w) rfl) ?_
              refine RunT.ot0 (x := .v (.int .i64 (wr (v99 + 1)))) rfl rfl rfl rfl (.assignX rfl) ?_
              refine RunT.nil ?_
              exact ⟨n, Nat.lt_succ_self n, _, ⟨wr (v99 + 1), H, rfl⟩, (sub_to [some 0, some 1, some 2] (by decide) rfl rfl (⟨⟨_, rfl, .one .v⟩, ⟨⟨_, rfl, .one .v⟩, ⟨⟨_, rfl, .one (.ptr rfl)⟩, ⟨⟨_, rfl, .one (.ptr rfl)⟩, ⟨⟨_, rfl, .one (.ptr rfl)⟩, ⟨⟨_, rfl, .one .v⟩, ⟨⟨_, rfl, .one .v⟩, trivial⟩⟩⟩⟩⟩⟩⟩) (⟨⟨rfl, .inl ⟨_, _, rfl, rfl, .box ⟨.lst, .v, .v, .lst, .lst, .lst, trivial⟩⟩⟩, ⟨⟨rfl, .inl ⟨_, _, rfl, rfl, .box ⟨.v, .v, trivial⟩⟩⟩, ⟨⟨rfl, .inl ⟨_, _, rfl, rfl, .box ⟨.v, .v, trivial⟩⟩⟩, trivial⟩⟩⟩))⟩
        · replace H := cf H c100
          refine T.exit ?_
          obtain rfl := si H
          exact ⟨_, rfl, (sub_to [some 0, some 1, some 2] (by decide) rfl rfl (⟨⟨_, rfl, .one .v⟩, ⟨⟨_, rfl, .one .v⟩, ⟨⟨_, rfl, .one (.ptr rfl)⟩, ⟨⟨_, rfl, .one (.ptr rfl)⟩, ⟨⟨_, rfl, .one (.ptr rfl)⟩, ⟨⟨_, rfl, .one .v⟩, trivial⟩⟩⟩⟩⟩⟩) (⟨⟨rfl, .inl ⟨_, _, rfl, rfl, .box ⟨.lst, .v, .v, .lst, .lst, .lst, trivial⟩⟩⟩, ⟨⟨rfl, .inl ⟨_, _, rfl, rfl, .box ⟨.v, .v, trivial⟩⟩⟩, ⟨⟨rfl, .inl ⟨_, _, rfl, rfl, .box ⟨.v, .v, trivial⟩⟩⟩, trivial⟩⟩⟩))⟩
      · intro v98 s hR hS
        subst hR
        have H := exg HO97
        refine T.sub hS ?_
        refine T.region ?_
        refine RunT.ot0 (x := .v (.int .i64 v74)) rfl rfl rfl rfl (.moveX rfl) ?_
        refine RunT.ot0 (x := .v (.int .i64 (wr (v74 + 1)))) rfl rfl rfl rfl (.bin rfl rfl (fun w => b_addw w) rfl) ?_
        refine RunT.ot0 (x := .v (.int .i64 (wr (v74 + 1)))) rfl rfl rfl rfl (.assignX rfl) ?_
        refine RunT.nil ?_
        exact ⟨n, Nat.lt_succ_self n, _, ⟨wr (v74 + 1), H, rfl⟩, (sub_to [some 0, some 1, some 2] (by decide) rfl rfl (⟨⟨_, rfl, .one .v⟩, ⟨⟨_, rfl, .one .v⟩, ⟨⟨_, rfl, .one (.ptr rfl)⟩, ⟨⟨_, rfl, .one (.ptr rfl)⟩, ⟨⟨_, rfl, .one (.ptr rfl)⟩, ⟨⟨_, rfl, .one .v⟩, trivial⟩⟩⟩⟩⟩⟩) (⟨⟨rfl, .inl ⟨_, _, rfl, rfl, .box ⟨.lst, .v, .v, .lst, .lst, .lst, trivial⟩⟩⟩, ⟨⟨rfl, .inl ⟨_, _, rfl, rfl, .box ⟨.v, .v, trivial⟩⟩⟩, ⟨⟨rfl, .inl ⟨_, _, rfl, rfl, .box ⟨.v, .v, trivial⟩⟩⟩, trivial⟩⟩⟩))⟩
    · replace H := cf H c75
      refine T.exit ?_
      obtain rfl := si H
      exact ⟨_, rfl, (sub_to [] (by decide) rfl rfl (trivial) (trivial))⟩
  · intro v73 s hR hS
    subst hR
    have H := exg HO72
    refine T.sub hS ?_
    refine T.seq ?_
    refine T.region ?_
    refine RunT.ot0 (x := .v (.bool true)) rfl rfl rfl rfl (.assignX rfl) ?_
    refine RunT.nil ?_
    obtain rfl := si H
    refine T.sub (sub_to (st' := ⟨[(10, .v (.bool true))], [], 8, []⟩) [] (by decide) rfl rfl (⟨⟨_, rfl, .one .v⟩, trivial⟩) (trivial)) ?_
    refine T.ret ?_
    exact RetOk.same [.v (.bool true)] ⟨rfl, trivial⟩ rfl rfl rfl
set_option maxHeartbeats 4000000 in
theorem place_Apart_pc (al : Bool) (k : Nat) (a0 : Venue) (a1 : Party) (a2 : Int) (a3 : Party) (a4 : Int) (o : Bool) (H : place_Apart k a0 a1 a2 a3 a4 = some o) : PC Try.prog al 63 [.agg [.lst (List.map eSeat a0.Seats), .v (.int .i64 a0.Gap), .v (.int .i64 a0.Radius), .lst (List.map eI a0.Kills), .lst (List.map ePole a0.Poles)], .agg [.v (.int .i64 a1.Size), .v (.int .i64 a1.Wheels)], .v (.int .i64 a2), .agg [.v (.int .i64 a3.Size), .v (.int .i64 a3.Wheels)], .v (.int .i64 a4)] (.v (.bool o)) := by
  unfold place_Apart at H
  refine PC.of_T Try.func63 rfl rfl (n := 50) rfl rfl (.inr rfl) ?_
  intro base B w0
  refine T.st (st' := ⟨[(0, .agg [.lst (List.map eSeat a0.Seats), .v (.int .i64 a0.Gap), .v (.int .i64 a0.Radius), .lst (List.map eI a0.Kills), .lst (List.map ePole a0.Poles)]), (1, .agg [.v (.int .i64 a1.Size), .v (.int .i64 a1.Wheels)]), (2, .v (.int .i64 a2)), (3, .agg [.v (.int .i64 a3.Size), .v (.int .i64 a3.Wheels)]), (4, .v (.int .i64 a4))], [], 0, []⟩) rfl ?_
  refine T.seq ?_
  refine T.region ?_
  refine RunT.ot1 (x := .ptr 0 0) (p0 := (0, some (.box [.lst (List.map eSeat a0.Seats), .v (.int .i64 a0.Gap), .v (.int .i64 a0.Radius), .lst (List.map eI a0.Kills), .lst (List.map ePole a0.Poles)]))) (n' := 8) rfl rfl rfl rfl (.boxX rfl rfl rfl) rfl ?_
  refine RunT.ot1 (x := .ptr 8 0) (p0 := (8, some (.box [.v (.int .i64 a1.Size), .v (.int .i64 a1.Wheels)]))) (n' := 16) rfl rfl rfl rfl (.boxX rfl rfl rfl) rfl ?_
  refine RunT.ot1 (x := .ptr 16 0) (p0 := (16, some (.box [.v (.int .i64 a3.Size), .v (.int .i64 a3.Wheels)]))) (n' := 24) rfl rfl rfl rfl (.boxX rfl rfl rfl) rfl ?_
  refine RunT.ot0 (x := .v (.bool false)) rfl rfl rfl rfl (.assignX rfl) ?_
  refine RunT.nil ?_
  refine T.seq ?_
  refine T.region ?_
  refine RunT.ot0 (x := .agg [.lst (List.map eSeat a0.Seats), .v (.int .i64 a0.Gap), .v (.int .i64 a0.Radius), .lst (List.map eI a0.Kills), .lst (List.map ePole a0.Poles)]) rfl rfl rfl rfl (.loadP ty26 rfl rfl rfl) ?_
  obtain ⟨r1, h2, H⟩ := bs H
  refine RunT.ot0 (x := .tup [.agg [.lst (List.map eSeat r1.1.V.Seats), .v (.int .i64 r1.1.V.Gap), .v (.int .i64 r1.1.V.Radius), .lst (List.map eI r1.1.V.Kills), .lst (List.map ePole r1.1.V.Poles), .lst (List.map eB r1.1.usable)], .v (.bool r1.2)]) rfl rfl rfl rfl (.callp (PC.frozen (place_In_pc k a0 r1 h2)) rfl ⟨(.same rfl), trivial⟩ rfl rfl rfl) ?_
  refine RunT.ot0 (x := .tup [.agg [.lst (List.map eSeat r1.1.V.Seats), .v (.int .i64 r1.1.V.Gap), .v (.int .i64 r1.1.V.Radius), .lst (List.map eI r1.1.V.Kills), .lst (List.map ePole r1.1.V.Poles), .lst (List.map eB r1.1.usable)], .v (.bool r1.2)]) rfl rfl rfl rfl (.moveX rfl) ?_
  refine RunT.ot0 (x := .agg [.lst (List.map eSeat r1.1.V.Seats), .v (.int .i64 r1.1.V.Gap), .v (.int .i64 r1.1.V.Radius), .lst (List.map eI r1.1.V.Kills), .lst (List.map ePole r1.1.V.Poles), .lst (List.map eB r1.1.usable)]) rfl rfl rfl rfl (.extract rfl rfl) ?_
  refine RunT.ot0 (x := .v (.bool r1.2)) rfl rfl rfl rfl (.extract rfl rfl) ?_
  refine RunT.ot1 (x := .ptr 24 0) (p0 := (24, some (.box [.v (.slice none 0 0), .v (.int .i64 0), .v (.int .i64 0), .v (.slice none 0 0), .v (.slice none 0 0), .v (.slice none 0 0)]))) (n' := 32) rfl rfl rfl rfl (.allocX in115.zero rfl rfl) rfl ?_
  refine RunT.on1 (x := .junk) (p0 := (24, some (.box [.lst (List.map eSeat r1.1.V.Seats), .v (.int .i64 r1.1.V.Gap), .v (.int .i64 r1.1.V.Radius), .lst (List.map eI r1.1.V.Kills), .lst (List.map ePole r1.1.V.Poles), .lst (List.map eB r1.1.usable)]))) (n' := 40) rfl rfl rfl (.storePX ty115 rfl rfl rfl rfl rfl rfl rfl) rfl ?_
  refine RunT.ot0 (x := .v (.bool r1.2)) rfl rfl rfl rfl (.assignX rfl) ?_
  refine RunT.nil ?_
  refine T.seq ?_
  refine T.seq ?_
  refine T.region ?_
  refine RunT.ot0 (x := .v (.bool r1.2)) rfl rfl rfl rfl (.moveX rfl) ?_
  refine RunT.ot0 (x := .v (.bool (!r1.2))) rfl rfl rfl rfl (.un rfl (fun w => u_not w) rfl) ?_
  refine RunT.nil ?_
  refine T.cond2 (t := !r1.2) rfl (fun c3 => ?_) (fun c3 => ?_)
  · replace H := ct H c3
    refine T.seq ?_
    refine T.region ?_
    refine RunT.ot0 (x := .v (.bool false)) rfl rfl rfl rfl (.assignX rfl) ?_
    refine RunT.nil ?_
    obtain rfl := si H
    refine T.sub (sub_to (st' := ⟨[(10, .v (.bool false))], [], 8, []⟩) [] (by decide) rfl rfl (⟨⟨_, rfl, .one .v⟩, trivial⟩) (trivial)) ?_
    refine T.ret ?_
    exact RetOk.same [.v (.bool false)] ⟨rfl, trivial⟩ rfl rfl rfl
  · replace H := cf H c3
    refine T.skip ?_
    refine T.seq ?_
    refine T.region ?_
    refine RunT.ot0 (x := .agg [.lst (List.map eSeat r1.1.V.Seats), .v (.int .i64 r1.1.V.Gap), .v (.int .i64 r1.1.V.Radius), .lst (List.map eI r1.1.V.Kills), .lst (List.map ePole r1.1.V.Poles), .lst (List.map eB r1.1.usable)]) rfl rfl rfl rfl (.loadP ty115 rfl rfl rfl) ?_
    refine RunT.ot0 (x := .agg [.v (.int .i64 a1.Size), .v (.int .i64 a1.Wheels)]) rfl rfl rfl rfl (.loadP ty66 rfl rfl rfl) ?_
    refine RunT.ot0 (x := .v (.int .i64 a2)) rfl rfl rfl rfl (.moveX rfl) ?_
    obtain ⟨r4, h5, H⟩ := bs H
    refine RunT.ot0 (x := .tup [.lst (List.map eI r4.1), .v (.bool r4.2)]) rfl rfl rfl rfl (.callp (PC.frozen (place_Hall_Seats_pc false k r1.1 a1 a2 r4 h5)) rfl ⟨(.agg' ⟨.lst, .v, .v, .lst, .lst, .lst, trivial⟩), (.agg' ⟨.v, .v, trivial⟩), (.one .v), trivial⟩ rfl rfl rfl) ?_
    refine RunT.ot0 (x := .tup [.lst (List.map eI r4.1), .v (.bool r4.2)]) rfl rfl rfl rfl (.moveX rfl) ?_
    refine RunT.ot0 (x := .lst (List.map eI r4.1)) rfl rfl rfl rfl (.extract rfl rfl) ?_
    refine RunT.ot0 (x := .v (.bool r4.2)) rfl rfl rfl rfl (.extract rfl rfl) ?_
    refine RunT.ot0 (x := .lst (List.map eI r4.1)) rfl rfl rfl rfl (.assignX rfl) ?_
    refine RunT.ot0 (x := .v (.bool r4.2)) rfl rfl rfl rfl (.assignX rfl) ?_
    refine RunT.nil ?_
    refine T.seq ?_
    refine T.sub (sub_pick [2, 4, 6, 8, 11, 14] [8, 16, 24] (st' := ⟨[(2, .v (.int .i64 a2)), (4, .v (.int .i64 a4)), (6, .ptr 8 0), (8, .ptr 16 0), (11, .ptr 24 0), (14, .v (.bool r4.2))], [(8, some (.box [.v (.int .i64 a1.Size), .v (.int .i64 a1.Wheels)])), (16, some (.box [.v (.int .i64 a3.Size), .v (.int .i64 a3.Wheels)])), (24, some (.box [.lst (List.map eSeat r1.1.V.Seats), .v (.int .i64 r1.1.V.Gap), .v (.int .i64 r1.1.V.Radius), .lst (List.map eI r1.1.V.Kills), .lst (List.map ePole r1.1.V.Poles), .lst (List.map eB r1.1.usable)]))], 40, []⟩) rfl rfl rfl rfl rfl) ?_
    refine T.region ?_
    refine RunT.ot0 (x := .agg [.lst (List.map eSeat r1.1.V.Seats), .v (.int .i64 r1.1.V.Gap), .v (.int .i64 r1.1.V.Radius), .lst (List.map eI r1.1.V.Kills), .lst (List.map ePole r1.1.V.Poles), .lst (List.map eB r1.1.usable)]) rfl rfl rfl rfl (.loadP ty115 rfl rfl rfl) ?_
    refine RunT.ot0 (x := .agg [.v (.int .i64 a3.Size), .v (.int .i64 a3.Wheels)]) rfl rfl rfl rfl (.loadP ty66 rfl rfl rfl) ?_
    refine RunT.ot0 (x := .v (.int .i64 a4)) rfl rfl rfl rfl (.moveX rfl) ?_
    obtain ⟨r6, h7, H⟩ := bs H
    refine RunT.ot0 (x := .tup [.lst (List.map eI r6.1), .v (.bool r6.2)]) rfl rfl rfl rfl (.callp (PC.frozen (place_Hall_Seats_pc false k r1.1 a3 a4 r6 h7)) rfl ⟨(.agg' ⟨.lst, .v, .v, .lst, .lst, .lst, trivial⟩), (.agg' ⟨.v, .v, trivial⟩), (.one .v), trivial⟩ rfl rfl rfl) ?_
    refine RunT.ot0 (x := .tup [.lst (List.map eI r6.1), .v (.bool r6.2)]) rfl rfl rfl rfl (.moveX rfl) ?_
    refine RunT.ot0 (x := .lst (List.map eI r6.1)) rfl rfl rfl rfl (.extract rfl rfl) ?_
    refine RunT.ot0 (x := .v (.bool r6.2)) rfl rfl rfl rfl (.extract rfl rfl) ?_
    refine RunT.ot0 (x := .lst (List.map eI r6.1)) rfl rfl rfl rfl (.assignX rfl) ?_
    refine RunT.ot0 (x := .v (.bool r6.2)) rfl rfl rfl rfl (.assignX rfl) ?_
    refine RunT.nil ?_
    refine T.seq ?_
    refine T.region ?_
    refine RunT.ot0 (x := .v (.bool r4.2)) rfl rfl rfl rfl (.moveX rfl) ?_
    refine RunT.ot0 (x := .v (.bool r4.2)) rfl rfl rfl rfl (.moveX rfl) ?_
    refine RunT.cases (t := 39) (c := r4.2) rfl (fun g8 => ?_) (fun g8 => ?_)
    · replace H := ct H g8
      refine RunT.gt0 (x := .v (.bool r6.2)) rfl rfl rfl (bo g8) rfl rfl (.moveX rfl) ?_
      refine RunT.ot0 (x := .v (.bool r6.2)) rfl rfl rfl rfl (.pickT (bo g8) rfl) ?_
      refine RunT.ot0 (x := .v (.bool r6.2)) rfl rfl rfl rfl (.moveX rfl) ?_
      refine RunT.cases (t := 42) (c := r6.2) rfl (fun g9 => ?_) (fun g9 => ?_)
      · replace H := ct H g9
        refine RunT.gt0 (x := .agg [.lst (List.map eSeat r1.1.V.Seats), .v (.int .i64 r1.1.V.Gap), .v (.int .i64 r1.1.V.Radius), .lst (List.map eI r1.1.V.Kills), .lst (List.map ePole r1.1.V.Poles), .lst (List.map eB r1.1.usable)]) rfl rfl rfl (bo g9) rfl rfl (.loadP ty115 rfl rfl rfl) ?_
        refine RunT.gt0 (x := .agg [.v (.int .i64 a1.Size), .v (.int .i64 a1.Wheels)]) rfl rfl rfl (bo g9) rfl rfl (.loadP ty66 rfl rfl rfl) ?_
        refine RunT.gt0 (x := .v (.int .i64 a2)) rfl rfl rfl (bo g9) rfl rfl (.moveX rfl) ?_
        refine RunT.gt0 (x := .agg [.v (.int .i64 a3.Size), .v (.int .i64 a3.Wheels)]) rfl rfl rfl (bo g9) rfl rfl (.loadP ty66 rfl rfl rfl) ?_
        refine RunT.gt0 (x := .v (.int .i64 a4)) rfl rfl rfl (bo g9) rfl rfl (.moveX rfl) ?_
        obtain ⟨r10, h11, H⟩ := bs H
        refine RunT.gt0 (x := .v (.bool r10)) rfl rfl rfl (bo g9) rfl rfl (.callp (place_Hall_Apart_pc false k r1.1 a1 a2 a3 a4 r10 h11) rfl ⟨(.agg' ⟨.lst, .v, .v, .lst, .lst, .lst, trivial⟩), (.agg' ⟨.v, .v, trivial⟩), (.one .v), (.agg' ⟨.v, .v, trivial⟩), (.one .v), trivial⟩ rfl rfl rfl) ?_
        refine RunT.ot0 (x := .v (.bool r10)) rfl rfl rfl rfl (.pickT (bo g9) rfl) ?_
        refine RunT.ot0 (x := .v (.bool r10)) rfl rfl rfl rfl (.assignX rfl) ?_
        refine RunT.nil ?_
        obtain rfl := si H
        refine T.sub (sub_to (st' := ⟨[(10, .v (.bool r10))], [], 8, []⟩) [] (by decide) rfl rfl (⟨⟨_, rfl, .one .v⟩, trivial⟩) (trivial)) ?_
        refine T.ret ?_
        exact RetOk.same [.v (.bool r10)] ⟨rfl, trivial⟩ rfl rfl rfl
      · replace H := cf H g9
        refine RunT.xn rfl rfl rfl (bo g9) rfl rfl ?_
        refine RunT.xn rfl rfl rfl (bo g9) rfl rfl ?_
        refine RunT.xn rfl rfl rfl (bo g9) rfl rfl ?_
        refine RunT.xn rfl rfl rfl (bo g9) rfl rfl ?_
        refine RunT.xn rfl rfl rfl (bo g9) rfl rfl ?_
        refine RunT.xn rfl rfl rfl (bo g9) rfl rfl ?_
        refine RunT.ot0 (x := .v (.bool false)) rfl rfl rfl rfl (.pickF (bo g9) rfl) ?_
        refine RunT.ot0 (x := .v (.bool false)) rfl rfl rfl rfl (.assignX rfl) ?_
        refine RunT.nil ?_
        obtain rfl := si H
        refine T.sub (sub_to (st' := ⟨[(10, .v (.bool false))], [], 8, []⟩) [] (by decide) rfl rfl (⟨⟨_, rfl, .one .v⟩, trivial⟩) (trivial)) ?_
        refine T.ret ?_
        exact RetOk.same [.v (.bool false)] ⟨rfl, trivial⟩ rfl rfl rfl
    · replace H := cf H g8
      refine RunT.xn rfl rfl rfl (bo g8) rfl rfl ?_
      refine RunT.ot0 (x := .v (.bool false)) rfl rfl rfl rfl (.pickF (bo g8) rfl) ?_
      refine RunT.ot0 (x := .v (.bool false)) rfl rfl rfl rfl (.moveX rfl) ?_
      refine RunT.xn rfl rfl rfl rfl rfl rfl ?_
      refine RunT.xn rfl rfl rfl rfl rfl rfl ?_
      refine RunT.xn rfl rfl rfl rfl rfl rfl ?_
      refine RunT.xn rfl rfl rfl rfl rfl rfl ?_
      refine RunT.xn rfl rfl rfl rfl rfl rfl ?_
      refine RunT.xn rfl rfl rfl rfl rfl rfl ?_
      refine RunT.ot0 (x := .v (.bool false)) rfl rfl rfl rfl (.pickF rfl rfl) ?_
      refine RunT.ot0 (x := .v (.bool false)) rfl rfl rfl rfl (.assignX rfl) ?_
      refine RunT.nil ?_
      obtain rfl := si H
      refine T.sub (sub_to (st' := ⟨[(10, .v (.bool false))], [], 8, []⟩) [] (by decide) rfl rfl (⟨⟨_, rfl, .one .v⟩, trivial⟩) (trivial)) ?_
      refine T.ret ?_
      exact RetOk.same [.v (.bool false)] ⟨rfl, trivial⟩ rfl rfl rfl
set_option maxHeartbeats 4000000 in
theorem law11_told_pc (al : Bool) (k : Nat)  (o : Bool) (H : law11_told k  = some o) : PC Try.prog al 59 [] (.v (.bool o)) := by
  unfold law11_told at H
  refine PC.of_T Try.func59 rfl rfl (n := 117) rfl rfl (.inr rfl) ?_
  intro base B w0
  refine T.st (st' := ⟨[], [], 0, []⟩) rfl ?_
  refine T.seq ?_
  refine T.region ?_
  refine RunT.ot0 (x := .v (.bool false)) rfl rfl rfl rfl (.assignX rfl) ?_
  refine RunT.nil ?_
  refine T.seq ?_
  refine T.region ?_
  refine RunT.ot0 (x := .agg [.v (.int .i64 0), .v (.int .i64 0), .v (.int .i64 0), .v (.int .i64 0)]) rfl rfl rfl rfl (.bu bu28 rfl) ?_
  refine RunT.ot0 (x := .agg [.v (.int .i64 0), .v (.int .i64 10), .v (.int .i64 0), .v (.int .i64 2)]) rfl rfl rfl rfl (.bu bu28 rfl) ?_
  refine RunT.ot0 (x := .agg [.v (.int .i64 0), .v (.int .i64 20), .v (.int .i64 0), .v (.int .i64 1)]) rfl rfl rfl rfl (.bu bu28 rfl) ?_
  refine RunT.ot0 (x := .agg [.v (.int .i64 0), .v (.int .i64 30), .v (.int .i64 0), .v (.int .i64 0)]) rfl rfl rfl rfl (.bu bu28 rfl) ?_
  refine RunT.ot0 (x := .agg [.v (.int .i64 0), .v (.int .i64 40), .v (.int .i64 0), .v (.int .i64 0)]) rfl rfl rfl rfl (.bu bu28 rfl) ?_
  refine RunT.ot0 (x := .agg [.v (.int .i64 0), .v (.int .i64 50), .v (.int .i64 0), .v (.int .i64 0)]) rfl rfl rfl rfl (.bu bu28 rfl) ?_
  refine RunT.ot1 (x := .own 0 0 (([Seat.mk 0 0 0 0, Seat.mk 0 10 0 2, Seat.mk 0 20 0 1, Seat.mk 0 30 0 0, Seat.mk 0 40 0 0, Seat.mk 0 50 0 0]).length)) (p0 := (0, some (.arr false 4 (List.map eSeat [Seat.mk 0 0 0 0, Seat.mk 0 10 0 2, Seat.mk 0 20 0 1, Seat.mk 0 30 0 0, Seat.mk 0 40 0 0, Seat.mk 0 50 0 0])))) (n' := 8) rfl rfl rfl rfl (.bslicem (d := false) (l := [Seat.mk 0 0 0 0, Seat.mk 0 10 0 2, Seat.mk 0 20 0 1, Seat.mk 0 30 0 0, Seat.mk 0 40 0 0, Seat.mk 0 50 0 0]) (f := eSeat) sl22 rfl rfl rfl enc_Seat rfl) rfl ?_
  refine RunT.ot0 (x := .agg [.own 0 0 (([Seat.mk 0 0 0 0, Seat.mk 0 10 0 2, Seat.mk 0 20 0 1, Seat.mk 0 30 0 0, Seat.mk 0 40 0 0, Seat.mk 0 50 0 0]).length), .v (.int .i64 10), .v (.int .i64 15), .v (.slice none 0 0), .v (.slice none 0 0)]) rfl rfl rfl rfl (.bu bu26 rfl) ?_
  refine RunT.ot1 (x := .ptr 8 0) (p0 := (8, some (.box [.v (.slice none 0 0), .v (.int .i64 0), .v (.int .i64 0), .v (.slice none 0 0), .v (.slice none 0 0)]))) (n' := 16) rfl rfl rfl rfl (.allocX in26.zero rfl rfl) rfl ?_
  refine RunT.on1 (x := .junk) (p0 := (8, some (.box [.own 0 0 (([Seat.mk 0 0 0 0, Seat.mk 0 10 0 2, Seat.mk 0 20 0 1, Seat.mk 0 30 0 0, Seat.mk 0 40 0 0, Seat.mk 0 50 0 0]).length), .v (.int .i64 10), .v (.int .i64 15), .v (.slice none 0 0), .v (.slice none 0 0)]))) (n' := 24) rfl rfl rfl (.storePX ty26 rfl rfl rfl rfl rfl rfl rfl) rfl ?_
  refine RunT.nil ?_
  refine T.seq ?_
  refine T.region ?_
  refine RunT.ot0 (x := .agg [.v (.int .i64 1), .v (.int .i64 0)]) rfl rfl rfl rfl (.bu bu66 rfl) ?_
  refine RunT.ot0 (x := .agg [.v (.int .i64 2), .v (.int .i64 0)]) rfl rfl rfl rfl (.bu bu66 rfl) ?_
  refine RunT.ot0 (x := .agg [.v (.int .i64 2), .v (.int .i64 1)]) rfl rfl rfl rfl (.bu bu66 rfl) ?_
  refine RunT.ot1 (x := .ptr 24 0) (p0 := (24, some (.box [.v (.int .i64 0), .v (.int .i64 0)]))) (n' := 32) rfl rfl rfl rfl (.allocX in66.zero rfl rfl) rfl ?_
  refine RunT.ot1 (x := .ptr 32 0) (p0 := (32, some (.box [.v (.int .i64 0), .v (.int .i64 0)]))) (n' := 40) rfl rfl rfl rfl (.allocX in66.zero rfl rfl) rfl ?_
  refine RunT.ot1 (x := .ptr 40 0) (p0 := (40, some (.box [.v (.int .i64 0), .v (.int .i64 0)]))) (n' := 48) rfl rfl rfl rfl (.allocX in66.zero rfl rfl) rfl ?_
  refine RunT.on1 (x := .junk) (p0 := (24, some (.box [.v (.int .i64 1), .v (.int .i64 0)]))) (n' := 56) rfl rfl rfl (.storePX ty66 rfl rfl rfl rfl rfl rfl rfl) rfl ?_
  refine RunT.on1 (x := .junk) (p0 := (32, some (.box [.v (.int .i64 2), .v (.int .i64 0)]))) (n' := 64) rfl rfl rfl (.storePX ty66 rfl rfl rfl rfl rfl rfl rfl) rfl ?_
  refine RunT.on1 (x := .junk) (p0 := (40, some (.box [.v (.int .i64 2), .v (.int .i64 1)]))) (n' := 72) rfl rfl rfl (.storePX ty66 rfl rfl rfl rfl rfl rfl rfl) rfl ?_
  refine RunT.nil ?_
  refine T.seq ?_
  refine T.sub (sub_pick [1, 2, 3, 4] [0, 8, 24, 32, 40] (st' := ⟨[(1, .ptr 8 0), (2, .ptr 24 0), (3, .ptr 32 0), (4, .ptr 40 0)], [(0, some (.arr false 4 (List.map eSeat [Seat.mk 0 0 0 0, Seat.mk 0 10 0 2, Seat.mk 0 20 0 1, Seat.mk 0 30 0 0, Seat.mk 0 40 0 0, Seat.mk 0 50 0 0]))), (8, some (.box [.own 0 0 (([Seat.mk 0 0 0 0, Seat.mk 0 10 0 2, Seat.mk 0 20 0 1, Seat.mk 0 30 0 0, Seat.mk 0 40 0 0, Seat.mk 0 50 0 0]).length), .v (.int .i64 10), .v (.int .i64 15), .v (.slice none 0 0), .v (.slice none 0 0)])), (24, some (.box [.v (.int .i64 1), .v (.int .i64 0)])), (32, some (.box [.v (.int .i64 2), .v (.int .i64 0)])), (40, some (.box [.v (.int .i64 2), .v (.int .i64 1)]))], 72, []⟩) rfl rfl rfl rfl rfl) ?_
  refine T.region ?_
  refine RunT.ot0 (x := .agg [.own 0 0 (([Seat.mk 0 0 0 0, Seat.mk 0 10 0 2, Seat.mk 0 20 0 1, Seat.mk 0 30 0 0, Seat.mk 0 40 0 0, Seat.mk 0 50 0 0]).length), .v (.int .i64 10), .v (.int .i64 15), .v (.slice none 0 0), .v (.slice none 0 0)]) rfl rfl rfl rfl (.loadP ty26 rfl rfl rfl) ?_
  refine RunT.ot0 (x := .agg [.v (.int .i64 2), .v (.int .i64 1)]) rfl rfl rfl rfl (.loadP ty66 rfl rfl rfl) ?_
  obtain ⟨r1, h2, H⟩ := bs H
  refine RunT.ot0 (x := .tup [.lst (List.map eI r1.1), .v (.bool r1.2)]) rfl rfl rfl rfl (.callp (PC.frozen (place_Seats_pc false k (Venue.mk [Seat.mk 0 0 0 0, Seat.mk 0 10 0 2, Seat.mk 0 20 0 1, Seat.mk 0 30 0 0, Seat.mk 0 40 0 0, Seat.mk 0 50 0 0] 10 15 [] []) (Party.mk 2 1) 1 r1 h2)) rfl ⟨(.agg' ⟨(.all rfl (List.length_map _).symm), .v, .v, .nil, .nil, trivial⟩), (.agg' ⟨.v, .v, trivial⟩), (.one .v), trivial⟩ rfl rfl rfl) ?_
  refine RunT.ot0 (x := .tup [.lst (List.map eI r1.1), .v (.bool r1.2)]) rfl rfl rfl rfl (.moveX rfl) ?_
  refine RunT.ot0 (x := .lst (List.map eI r1.1)) rfl rfl rfl rfl (.extract rfl rfl) ?_
  refine RunT.ot0 (x := .v (.bool r1.2)) rfl rfl rfl rfl (.extract rfl rfl) ?_
  refine RunT.ot0 (x := .lst (List.map eI r1.1)) rfl rfl rfl rfl (.assignX rfl) ?_
  refine RunT.ot0 (x := .v (.bool r1.2)) rfl rfl rfl rfl (.assignX rfl) ?_
  refine RunT.nil ?_
  refine T.seq ?_
  refine T.region ?_
  refine RunT.ot0 (x := .agg [.own 0 0 (([Seat.mk 0 0 0 0, Seat.mk 0 10 0 2, Seat.mk 0 20 0 1, Seat.mk 0 30 0 0, Seat.mk 0 40 0 0, Seat.mk 0 50 0 0]).length), .v (.int .i64 10), .v (.int .i64 15), .v (.slice none 0 0), .v (.slice none 0 0)]) rfl rfl rfl rfl (.loadP ty26 rfl rfl rfl) ?_
  refine RunT.ot0 (x := .agg [.v (.int .i64 1), .v (.int .i64 0)]) rfl rfl rfl rfl (.loadP ty66 rfl rfl rfl) ?_
  obtain ⟨r3, h4, H⟩ := bs H
  refine RunT.ot0 (x := .v (.bool r3)) rfl rfl rfl rfl (.callp (place_May_pc false k (Venue.mk [Seat.mk 0 0 0 0, Seat.mk 0 10 0 2, Seat.mk 0 20 0 1, Seat.mk 0 30 0 0, Seat.mk 0 40 0 0, Seat.mk 0 50 0 0] 10 15 [] []) (Party.mk 1 0) 0 r3 h4) rfl ⟨(.agg' ⟨(.all rfl (List.length_map _).symm), .v, .v, .nil, .nil, trivial⟩), (.agg' ⟨.v, .v, trivial⟩), (.one .v), trivial⟩ rfl rfl rfl) ?_
  refine RunT.ot0 (x := .v (.bool r3)) rfl rfl rfl rfl (.moveX rfl) ?_
  refine RunT.cases (t := 27) (c := r3) rfl (fun g5 => ?_) (fun g5 => ?_)
  · replace H := ct H g5
    refine RunT.gt0 (x := .agg [.own 0 0 (([Seat.mk 0 0 0 0, Seat.mk 0 10 0 2, Seat.mk 0 20 0 1, Seat.mk 0 30 0 0, Seat.mk 0 40 0 0, Seat.mk 0 50 0 0]).length), .v (.int .i64 10), .v (.int .i64 15), .v (.slice none 0 0), .v (.slice none 0 0)]) rfl rfl rfl (bo g5) rfl rfl (.loadP ty26 rfl rfl rfl) ?_
    refine RunT.gt0 (x := .agg [.v (.int .i64 1), .v (.int .i64 0)]) rfl rfl rfl (bo g5) rfl rfl (.loadP ty66 rfl rfl rfl) ?_
    obtain ⟨r6, h7, H⟩ := bs H
    refine RunT.gt0 (x := .v (.bool r6)) rfl rfl rfl (bo g5) rfl rfl (.callp (place_May_pc false k (Venue.mk [Seat.mk 0 0 0 0, Seat.mk 0 10 0 2, Seat.mk 0 20 0 1, Seat.mk 0 30 0 0, Seat.mk 0 40 0 0, Seat.mk 0 50 0 0] 10 15 [] []) (Party.mk 1 0) 1 r6 h7) rfl ⟨(.agg' ⟨(.all rfl (List.length_map _).symm), .v, .v, .nil, .nil, trivial⟩), (.agg' ⟨.v, .v, trivial⟩), (.one .v), trivial⟩ rfl rfl rfl) ?_
    refine RunT.gt0 (x := .v (.bool (!r6))) rfl rfl rfl (bo g5) rfl rfl (.un rfl (fun w => u_not w) rfl) ?_
    refine RunT.ot0 (x := .v (.bool (!r6))) rfl rfl rfl rfl (.pickT (bo g5) rfl) ?_
    refine RunT.ot0 (x := .v (.bool (!r6))) rfl rfl rfl rfl (.moveX rfl) ?_
    refine RunT.cases (t := 33) (c := !r6) rfl (fun g8 => ?_) (fun g8 => ?_)
    · replace H := ct H g8
      refine RunT.gt0 (x := .agg [.own 0 0 (([Seat.mk 0 0 0 0, Seat.mk 0 10 0 2, Seat.mk 0 20 0 1, Seat.mk 0 30 0 0, Seat.mk 0 40 0 0, Seat.mk 0 50 0 0]).length), .v (.int .i64 10), .v (.int .i64 15), .v (.slice none 0 0), .v (.slice none 0 0)]) rfl rfl rfl (bo g8) rfl rfl (.loadP ty26 rfl rfl rfl) ?_
      refine RunT.gt0 (x := .agg [.v (.int .i64 1), .v (.int .i64 0)]) rfl rfl rfl (bo g8) rfl rfl (.loadP ty66 rfl rfl rfl) ?_
      obtain ⟨r9, h10, H⟩ := bs H
      refine RunT.gt0 (x := .v (.bool r9)) rfl rfl rfl (bo g8) rfl rfl (.callp (place_May_pc false k (Venue.mk [Seat.mk 0 0 0 0, Seat.mk 0 10 0 2, Seat.mk 0 20 0 1, Seat.mk 0 30 0 0, Seat.mk 0 40 0 0, Seat.mk 0 50 0 0] 10 15 [] []) (Party.mk 1 0) 2 r9 h10) rfl ⟨(.agg' ⟨(.all rfl (List.length_map _).symm), .v, .v, .nil, .nil, trivial⟩), (.agg' ⟨.v, .v, trivial⟩), (.one .v), trivial⟩ rfl rfl rfl) ?_
      refine RunT.gt0 (x := .v (.bool (!r9))) rfl rfl rfl (bo g8) rfl rfl (.un rfl (fun w => u_not w) rfl) ?_
      refine RunT.ot0 (x := .v (.bool (!r9))) rfl rfl rfl rfl (.pickT (bo g8) rfl) ?_
      refine RunT.ot0 (x := .v (.bool (!r9))) rfl rfl rfl rfl (.moveX rfl) ?_
      refine RunT.cases (t := 39) (c := !r9) rfl (fun g11 => ?_) (fun g11 => ?_)
      · replace H := ct H g11
        refine RunT.gt0 (x := .agg [.own 0 0 (([Seat.mk 0 0 0 0, Seat.mk 0 10 0 2, Seat.mk 0 20 0 1, Seat.mk 0 30 0 0, Seat.mk 0 40 0 0, Seat.mk 0 50 0 0]).length), .v (.int .i64 10), .v (.int .i64 15), .v (.slice none 0 0), .v (.slice none 0 0)]) rfl rfl rfl (bo g11) rfl rfl (.loadP ty26 rfl rfl rfl) ?_
        refine RunT.gt0 (x := .agg [.v (.int .i64 2), .v (.int .i64 1)]) rfl rfl rfl (bo g11) rfl rfl (.loadP ty66 rfl rfl rfl) ?_
        obtain ⟨r12, h13, H⟩ := bs H
        refine RunT.gt0 (x := .v (.bool r12)) rfl rfl rfl (bo g11) rfl rfl (.callp (place_May_pc false k (Venue.mk [Seat.mk 0 0 0 0, Seat.mk 0 10 0 2, Seat.mk 0 20 0 1, Seat.mk 0 30 0 0, Seat.mk 0 40 0 0, Seat.mk 0 50 0 0] 10 15 [] []) (Party.mk 2 1) 1 r12 h13) rfl ⟨(.agg' ⟨(.all rfl (List.length_map _).symm), .v, .v, .nil, .nil, trivial⟩), (.agg' ⟨.v, .v, trivial⟩), (.one .v), trivial⟩ rfl rfl rfl) ?_
        refine RunT.ot0 (x := .v (.bool r12)) rfl rfl rfl rfl (.pickT (bo g11) rfl) ?_
        refine RunT.ot0 (x := .v (.bool r12)) rfl rfl rfl rfl (.moveX rfl) ?_
        refine RunT.cases (t := 44) (c := r12) rfl (fun g14 => ?_) (fun g14 => ?_)
        · replace H := ct H g14
          refine RunT.gt0 (x := .agg [.own 0 0 (([Seat.mk 0 0 0 0, Seat.mk 0 10 0 2, Seat.mk 0 20 0 1, Seat.mk 0 30 0 0, Seat.mk 0 40 0 0, Seat.mk 0 50 0 0]).length), .v (.int .i64 10), .v (.int .i64 15), .v (.slice none 0 0), .v (.slice none 0 0)]) rfl rfl rfl (bo g14) rfl rfl (.loadP ty26 rfl rfl rfl) ?_
          refine RunT.gt0 (x := .agg [.v (.int .i64 2), .v (.int .i64 1)]) rfl rfl rfl (bo g14) rfl rfl (.loadP ty66 rfl rfl rfl) ?_
          obtain ⟨r15, h16, H⟩ := bs H
          refine RunT.gt0 (x := .v (.bool r15)) rfl rfl rfl (bo g14) rfl rfl (.callp (place_May_pc false k (Venue.mk [Seat.mk 0 0 0 0, Seat.mk 0 10 0 2, Seat.mk 0 20 0 1, Seat.mk 0 30 0 0, Seat.mk 0 40 0 0, Seat.mk 0 50 0 0] 10 15 [] []) (Party.mk 2 1) 2 r15 h16) rfl ⟨(.agg' ⟨(.all rfl (List.length_map _).symm), .v, .v, .nil, .nil, trivial⟩), (.agg' ⟨.v, .v, trivial⟩), (.one .v), trivial⟩ rfl rfl rfl) ?_
          refine RunT.gt0 (x := .v (.bool (!r15))) rfl rfl rfl (bo g14) rfl rfl (.un rfl (fun w => u_not w) rfl) ?_
          refine RunT.ot0 (x := .v (.bool (!r15))) rfl rfl rfl rfl (.pickT (bo g14) rfl) ?_
          refine RunT.ot0 (x := .v (.bool (!r15))) rfl rfl rfl rfl (.moveX rfl) ?_
          refine RunT.cases (t := 50) (c := !r15) rfl (fun g17 => ?_) (fun g17 => ?_)
          · replace H := ct H g17
            refine RunT.gt0 (x := .v (.bool r1.2)) rfl rfl rfl (bo g17) rfl rfl (.moveX rfl) ?_
            refine RunT.ot0 (x := .v (.bool r1.2)) rfl rfl rfl rfl (.pickT (bo g17) rfl) ?_
            refine RunT.ot0 (x := .v (.bool r1.2)) rfl rfl rfl rfl (.moveX rfl) ?_
            refine RunT.cases (t := 53) (c := r1.2) rfl (fun g18 => ?_) (fun g18 => ?_)
            · replace H := ct H g18
              refine RunT.gt0 (x := .lst (List.map eI r1.1)) rfl rfl rfl (bo g18) rfl rfl (.moveX rfl) ?_
              refine RunT.gt0 (x := .v (.int .i64 (r1.1.length : Int))) rfl rfl rfl (bo g18) rfl rfl (.lenLm Try.underlying23 rfl rfl) ?_
              refine RunT.gt0 (x := .v (.bool (decide ((r1.1.length : Int) = 2)))) rfl rfl rfl (bo g18) rfl rfl (.bin rfl rfl (fun w => b_eql w) rfl) ?_
              refine RunT.ot0 (x := .v (.bool (decide ((r1.1.length : Int) = 2)))) rfl rfl rfl rfl (.pickT (bo g18) rfl) ?_
              refine RunT.ot0 (x := .v (.bool (decide ((r1.1.length : Int) = 2)))) rfl rfl rfl rfl (.moveX rfl) ?_
              refine RunT.cases (t := 58) (c := decide ((r1.1.length : Int) = 2)) rfl (fun g19 => ?_) (fun g19 => ?_)
              · replace H := ct H g19
                refine RunT.gt0 (x := .lst (List.map eI r1.1)) rfl rfl rfl (bo g19) rfl rfl (.moveX rfl) ?_
                obtain ⟨y20, h21, H⟩ := bs H
                refine RunT.gt0 (x := .rptr [.v (.int .i64 y20)]) rfl rfl rfl (bo g19) rfl rfl (.idxLX h21 enc_I sl23 rfl rfl rfl) ?_
                refine RunT.gt0 (x := .v (.int .i64 y20)) rfl rfl rfl (bo g19) rfl rfl (.loadR ty3 rfl rfl) ?_
                refine RunT.gt0 (x := .v (.bool (decide (y20 = 2)))) rfl rfl rfl (bo g19) rfl rfl (.bin rfl rfl (fun w => b_eql w) rfl) ?_
                refine RunT.ot0 (x := .v (.bool (decide (y20 = 2)))) rfl rfl rfl rfl (.pickT (bo g19) rfl) ?_
                refine RunT.ot0 (x := .v (.bool (decide (y20 = 2)))) rfl rfl rfl rfl (.moveX rfl) ?_
                refine RunT.cases (t := 64) (c := decide (y20 = 2)) rfl (fun g22 => ?_) (fun g22 => ?_)
                · replace H := ct H g22
                  refine RunT.gt0 (x := .agg [.own 0 0 (([Seat.mk 0 0 0 0, Seat.mk 0 10 0 2, Seat.mk 0 20 0 1, Seat.mk 0 30 0 0, Seat.mk 0 40 0 0, Seat.mk 0 50 0 0]).length), .v (.int .i64 10), .v (.int .i64 15), .v (.slice none 0 0), .v (.slice none 0 0)]) rfl rfl rfl (bo g22) rfl rfl (.loadP ty26 rfl rfl rfl) ?_
                  refine RunT.gt0 (x := .agg [.v (.int .i64 1), .v (.int .i64 0)]) rfl rfl rfl (bo g22) rfl rfl (.loadP ty66 rfl rfl rfl) ?_
                  obtain ⟨r23, h24, H⟩ := bs H
                  refine RunT.gt0 (x := .lst (List.map eI r23)) rfl rfl rfl (bo g22) rfl rfl (.callp (PC.frozen (place_All_pc false k (Venue.mk [Seat.mk 0 0 0 0, Seat.mk 0 10 0 2, Seat.mk 0 20 0 1, Seat.mk 0 30 0 0, Seat.mk 0 40 0 0, Seat.mk 0 50 0 0] 10 15 [] []) (Party.mk 1 0) r23 h24)) rfl ⟨(.agg' ⟨(.all rfl (List.length_map _).symm), .v, .v, .nil, .nil, trivial⟩), (.agg' ⟨.v, .v, trivial⟩), trivial⟩ rfl rfl rfl) ?_
                  refine RunT.gt1 (x := .own 72 0 (([0, 3, 4, 5]).length)) (p0 := (72, some (.arr false 1 (List.map eI [0, 3, 4, 5])))) (n' := 80) rfl rfl rfl (bo g22) rfl rfl (.bslicem (d := false) (l := [0, 3, 4, 5]) (f := eI) sl23 rfl rfl rfl enc_I rfl) rfl ?_
                  obtain ⟨r25, h26, H⟩ := bs H
                  refine RunT.gt0 (x := .v (.bool r25)) rfl rfl rfl (bo g22) rfl rfl (.callp (ref6_SameInts_pc false k r23 [0, 3, 4, 5] r25 h26) rfl ⟨(.one .lst), (.one (.all rfl (List.length_map _).symm)), trivial⟩ rfl rfl rfl) ?_
                  refine RunT.ot0 (x := .v (.bool r25)) rfl rfl rfl rfl (.pickT (bo g22) rfl) ?_
                  refine RunT.ot0 (x := .v (.bool r25)) rfl rfl rfl rfl (.moveX rfl) ?_
                  refine RunT.cases (t := 71) (c := r25) rfl (fun g27 => ?_) (fun g27 => ?_)
                  · replace H := ct H g27
                    refine RunT.gt0 (x := .agg [.own 0 0 (([Seat.mk 0 0 0 0, Seat.mk 0 10 0 2, Seat.mk 0 20 0 1, Seat.mk 0 30 0 0, Seat.mk 0 40 0 0, Seat.mk 0 50 0 0]).length), .v (.int .i64 10), .v (.int .i64 15), .v (.slice none 0 0), .v (.slice none 0 0)]) rfl rfl rfl (bo g27) rfl rfl (.loadP ty26 rfl rfl rfl) ?_
                    refine RunT.gt0 (x := .agg [.v (.int .i64 2), .v (.int .i64 0)]) rfl rfl rfl (bo g27) rfl rfl (.loadP ty66 rfl rfl rfl) ?_
                    obtain ⟨r28, h29, H⟩ := bs H
                    refine RunT.gt0 (x := .lst (List.map eI r28)) rfl rfl rfl (bo g27) rfl rfl (.callp (PC.frozen (place_All_pc false k (Venue.mk [Seat.mk 0 0 0 0, Seat.mk 0 10 0 2, Seat.mk 0 20 0 1, Seat.mk 0 30 0 0, Seat.mk 0 40 0 0, Seat.mk 0 50 0 0] 10 15 [] []) (Party.mk 2 0) r28 h29)) rfl ⟨(.agg' ⟨(.all rfl (List.length_map _).symm), .v, .v, .nil, .nil, trivial⟩), (.agg' ⟨.v, .v, trivial⟩), trivial⟩ rfl rfl rfl) ?_
                    refine RunT.gt1 (x := .own 80 0 (([3, 4]).length)) (p0 := (80, some (.arr false 1 (List.map eI [3, 4])))) (n' := 88) rfl rfl rfl (bo g27) rfl rfl (.bslicem (d := false) (l := [3, 4]) (f := eI) sl23 rfl rfl rfl enc_I rfl) rfl ?_
                    obtain ⟨r30, h31, H⟩ := bs H
                    refine RunT.gt0 (x := .v (.bool r30)) rfl rfl rfl (bo g27) rfl rfl (.callp (ref6_SameInts_pc false k r28 [3, 4] r30 h31) rfl ⟨(.one .lst), (.one (.all rfl (List.length_map _).symm)), trivial⟩ rfl rfl rfl) ?_
                    refine RunT.ot0 (x := .v (.bool r30)) rfl rfl rfl rfl (.pickT (bo g27) rfl) ?_
                    refine RunT.ot0 (x := .v (.bool r30)) rfl rfl rfl rfl (.moveX rfl) ?_
                    refine RunT.cases (t := 78) (c := r30) rfl (fun g32 => ?_) (fun g32 => ?_)
                    · replace H := ct H g32
                      refine RunT.gt0 (x := .agg [.own 0 0 (([Seat.mk 0 0 0 0, Seat.mk 0 10 0 2, Seat.mk 0 20 0 1, Seat.mk 0 30 0 0, Seat.mk 0 40 0 0, Seat.mk 0 50 0 0]).length), .v (.int .i64 10), .v (.int .i64 15), .v (.slice none 0 0), .v (.slice none 0 0)]) rfl rfl rfl (bo g32) rfl rfl (.loadP ty26 rfl rfl rfl) ?_
                      refine RunT.gt0 (x := .agg [.v (.int .i64 2), .v (.int .i64 1)]) rfl rfl rfl (bo g32) rfl rfl (.loadP ty66 rfl rfl rfl) ?_
                      obtain ⟨r33, h34, H⟩ := bs H
                      refine RunT.gt0 (x := .lst (List.map eI r33)) rfl rfl rfl (bo g32) rfl rfl (.callp (PC.frozen (place_All_pc false k (Venue.mk [Seat.mk 0 0 0 0, Seat.mk 0 10 0 2, Seat.mk 0 20 0 1, Seat.mk 0 30 0 0, Seat.mk 0 40 0 0, Seat.mk 0 50 0 0] 10 15 [] []) (Party.mk 2 1) r33 h34)) rfl ⟨(.agg' ⟨(.all rfl (List.length_map _).symm), .v, .v, .nil, .nil, trivial⟩), (.agg' ⟨.v, .v, trivial⟩), trivial⟩ rfl rfl rfl) ?_
                      refine RunT.gt1 (x := .own 88 0 (([1]).length)) (p0 := (88, some (.arr false 1 (List.map eI [1])))) (n' := 96) rfl rfl rfl (bo g32) rfl rfl (.bslicem (d := false) (l := [1]) (f := eI) sl23 rfl rfl rfl enc_I rfl) rfl ?_
                      obtain ⟨r35, h36, H⟩ := bs H
                      refine RunT.gt0 (x := .v (.bool r35)) rfl rfl rfl (bo g32) rfl rfl (.callp (ref6_SameInts_pc false k r33 [1] r35 h36) rfl ⟨(.one .lst), (.one (.all rfl (List.length_map _).symm)), trivial⟩ rfl rfl rfl) ?_
                      refine RunT.ot0 (x := .v (.bool r35)) rfl rfl rfl rfl (.pickT (bo g32) rfl) ?_
                      refine RunT.ot0 (x := .v (.bool r35)) rfl rfl rfl rfl (.moveX rfl) ?_
                      refine RunT.cases (t := 85) (c := r35) rfl (fun g37 => ?_) (fun g37 => ?_)
                      · replace H := ct H g37
                        refine RunT.gt0 (x := .agg [.own 0 0 (([Seat.mk 0 0 0 0, Seat.mk 0 10 0 2, Seat.mk 0 20 0 1, Seat.mk 0 30 0 0, Seat.mk 0 40 0 0, Seat.mk 0 50 0 0]).length), .v (.int .i64 10), .v (.int .i64 15), .v (.slice none 0 0), .v (.slice none 0 0)]) rfl rfl rfl (bo g37) rfl rfl (.loadP ty26 rfl rfl rfl) ?_
                        refine RunT.gt0 (x := .agg [.v (.int .i64 1), .v (.int .i64 0)]) rfl rfl rfl (bo g37) rfl rfl (.loadP ty66 rfl rfl rfl) ?_
                        refine RunT.gt0 (x := .agg [.v (.int .i64 1), .v (.int .i64 0)]) rfl rfl rfl (bo g37) rfl rfl (.loadP ty66 rfl rfl rfl) ?_
                        obtain ⟨r38, h39, H⟩ := bs H
                        refine RunT.gt0 (x := .v (.bool r38)) rfl rfl rfl (bo g37) rfl rfl (.callp (place_Apart_pc false k (Venue.mk [Seat.mk 0 0 0 0, Seat.mk 0 10 0 2, Seat.mk 0 20 0 1, Seat.mk 0 30 0 0, Seat.mk 0 40 0 0, Seat.mk 0 50 0 0] 10 15 [] []) (Party.mk 1 0) 0 (Party.mk 1 0) 3 r38 h39) rfl ⟨(.agg' ⟨(.all rfl (List.length_map _).symm), .v, .v, .nil, .nil, trivial⟩), (.agg' ⟨.v, .v, trivial⟩), (.one .v), (.agg' ⟨.v, .v, trivial⟩), (.one .v), trivial⟩ rfl rfl rfl) ?_
                        refine RunT.ot0 (x := .v (.bool r38)) rfl rfl rfl rfl (.pickT (bo g37) rfl) ?_
                        refine RunT.ot0 (x := .v (.bool r38)) rfl rfl rfl rfl (.moveX rfl) ?_
                        refine RunT.cases (t := 91) (c := r38) rfl (fun g40 => ?_) (fun g40 => ?_)
                        · replace H := ct H g40
                          refine RunT.gt0 (x := .agg [.own 0 0 (([Seat.mk 0 0 0 0, Seat.mk 0 10 0 2, Seat.mk 0 20 0 1, Seat.mk 0 30 0 0, Seat.mk 0 40 0 0, Seat.mk 0 50 0 0]).length), .v (.int .i64 10), .v (.int .i64 15), .v (.slice none 0 0), .v (.slice none 0 0)]) rfl rfl rfl (bo g40) rfl rfl (.loadP ty26 rfl rfl rfl) ?_
                          refine RunT.gt0 (x := .agg [.v (.int .i64 1), .v (.int .i64 0)]) rfl rfl rfl (bo g40) rfl rfl (.loadP ty66 rfl rfl rfl) ?_
                          refine RunT.gt0 (x := .agg [.v (.int .i64 1), .v (.int .i64 0)]) rfl rfl rfl (bo g40) rfl rfl (.loadP ty66 rfl rfl rfl) ?_
                          obtain ⟨r41, h42, H⟩ := bs H
                          refine RunT.gt0 (x := .v (.bool r41)) rfl rfl rfl (bo g40) rfl rfl (.callp (place_Apart_pc false k (Venue.mk [Seat.mk 0 0 0 0, Seat.mk 0 10 0 2, Seat.mk 0 20 0 1, Seat.mk 0 30 0 0, Seat.mk 0 40 0 0, Seat.mk 0 50 0 0] 10 15 [] []) (Party.mk 1 0) 3 (Party.mk 1 0) 4 r41 h42) rfl ⟨(.agg' ⟨(.all rfl (List.length_map _).symm), .v, .v, .nil, .nil, trivial⟩), (.agg' ⟨.v, .v, trivial⟩), (.one .v), (.agg' ⟨.v, .v, trivial⟩), (.one .v), trivial⟩ rfl rfl rfl) ?_
                          refine RunT.gt0 (x := .v (.bool (!r41))) rfl rfl rfl (bo g40) rfl rfl (.un rfl (fun w => u_not w) rfl) ?_
                          refine RunT.ot0 (x := .v (.bool (!r41))) rfl rfl rfl rfl (.pickT (bo g40) rfl) ?_
                          refine RunT.ot0 (x := .v (.bool (!r41))) rfl rfl rfl rfl (.moveX rfl) ?_
                          refine RunT.cases (t := 98) (c := !r41) rfl (fun g43 => ?_) (fun g43 => ?_)
                          · replace H := ct H g43
                            refine RunT.gt0 (x := .agg [.own 0 0 (([Seat.mk 0 0 0 0, Seat.mk 0 10 0 2, Seat.mk 0 20 0 1, Seat.mk 0 30 0 0, Seat.mk 0 40 0 0, Seat.mk 0 50 0 0]).length), .v (.int .i64 10), .v (.int .i64 15), .v (.slice none 0 0), .v (.slice none 0 0)]) rfl rfl rfl (bo g43) rfl rfl (.loadP ty26 rfl rfl rfl) ?_
                            refine RunT.gt0 (x := .agg [.v (.int .i64 1), .v (.int .i64 0)]) rfl rfl rfl (bo g43) rfl rfl (.loadP ty66 rfl rfl rfl) ?_
                            refine RunT.gt0 (x := .agg [.v (.int .i64 1), .v (.int .i64 0)]) rfl rfl rfl (bo g43) rfl rfl (.loadP ty66 rfl rfl rfl) ?_
                            obtain ⟨r44, h45, H⟩ := bs H
                            refine RunT.gt0 (x := .v (.bool r44)) rfl rfl rfl (bo g43) rfl rfl (.callp (place_Apart_pc false k (Venue.mk [Seat.mk 0 0 0 0, Seat.mk 0 10 0 2, Seat.mk 0 20 0 1, Seat.mk 0 30 0 0, Seat.mk 0 40 0 0, Seat.mk 0 50 0 0] 10 15 [] []) (Party.mk 1 0) 3 (Party.mk 1 0) 5 r44 h45) rfl ⟨(.agg' ⟨(.all rfl (List.length_map _).symm), .v, .v, .nil, .nil, trivial⟩), (.agg' ⟨.v, .v, trivial⟩), (.one .v), (.agg' ⟨.v, .v, trivial⟩), (.one .v), trivial⟩ rfl rfl rfl) ?_
                            refine RunT.ot0 (x := .v (.bool r44)) rfl rfl rfl rfl (.pickT (bo g43) rfl) ?_
                            refine RunT.ot0 (x := .v (.bool r44)) rfl rfl rfl rfl (.moveX rfl) ?_
                            refine RunT.cases (t := 104) (c := r44) rfl (fun g46 => ?_) (fun g46 => ?_)
                            · replace H := ct H g46
                              refine RunT.gt0 (x := .agg [.own 0 0 (([Seat.mk 0 0 0 0, Seat.mk 0 10 0 2, Seat.mk 0 20 0 1, Seat.mk 0 30 0 0, Seat.mk 0 40 0 0, Seat.mk 0 50 0 0]).length), .v (.int .i64 10), .v (.int .i64 15), .v (.slice none 0 0), .v (.slice none 0 0)]) rfl rfl rfl (bo g46) rfl rfl (.loadP ty26 rfl rfl rfl) ?_
                              refine RunT.gt0 (x := .agg [.v (.int .i64 1), .v (.int .i64 0)]) rfl rfl rfl (bo g46) rfl rfl (.loadP ty66 rfl rfl rfl) ?_
                              refine RunT.gt0 (x := .agg [.v (.int .i64 1), .v (.int .i64 0)]) rfl rfl rfl (bo g46) rfl rfl (.loadP ty66 rfl rfl rfl) ?_
                              obtain ⟨r47, h48, H⟩ := bs H
                              refine RunT.gt0 (x := .v (.bool r47)) rfl rfl rfl (bo g46) rfl rfl (.callp (place_Apart_pc false k (Venue.mk [Seat.mk 0 0 0 0, Seat.mk 0 10 0 2, Seat.mk 0 20 0 1, Seat.mk 0 30 0 0, Seat.mk 0 40 0 0, Seat.mk 0 50 0 0] 10 15 [] []) (Party.mk 1 0) 3 (Party.mk 1 0) 3 r47 h48) rfl ⟨(.agg' ⟨(.all rfl (List.length_map _).symm), .v, .v, .nil, .nil, trivial⟩), (.agg' ⟨.v, .v, trivial⟩), (.one .v), (.agg' ⟨.v, .v, trivial⟩), (.one .v), trivial⟩ rfl rfl rfl) ?_
                              refine RunT.gt0 (x := .v (.bool (!r47))) rfl rfl rfl (bo g46) rfl rfl (.un rfl (fun w => u_not w) rfl) ?_
                              refine RunT.ot0 (x := .v (.bool (!r47))) rfl rfl rfl rfl (.pickT (bo g46) rfl) ?_
                              refine RunT.ot0 (x := .v (.bool (!r47))) rfl rfl rfl rfl (.moveX rfl) ?_
                              refine RunT.cases (t := 111) (c := !r47) rfl (fun g49 => ?_) (fun g49 => ?_)
                              · replace H := ct H g49
                                refine RunT.gt0 (x := .agg [.v (.slice none 0 0), .v (.int .i64 0), .v (.int .i64 0), .v (.slice none 0 0), .v (.slice none 0 0)]) rfl rfl rfl (bo g49) rfl rfl (.bu bu26 rfl) ?_
                                refine RunT.gt0 (x := .agg [.v (.int .i64 1), .v (.int .i64 0)]) rfl rfl rfl (bo g49) rfl rfl (.loadP ty66 rfl rfl rfl) ?_
                                obtain ⟨r50, h51, H⟩ := bs H
                                refine RunT.gt0 (x := .v (.bool r50)) rfl rfl rfl (bo g49) rfl rfl (.callp (place_May_pc false k (Venue.mk [] 0 0 [] []) (Party.mk 1 0) 0 r50 h51) rfl ⟨(.agg' ⟨.nil, .v, .v, .nil, .nil, trivial⟩), (.agg' ⟨.v, .v, trivial⟩), (.one .v), trivial⟩ rfl rfl rfl) ?_
                                refine RunT.gt0 (x := .v (.bool (!r50))) rfl rfl rfl (bo g49) rfl rfl (.un rfl (fun w => u_not w) rfl) ?_
                                refine RunT.ot0 (x := .v (.bool (!r50))) rfl rfl rfl rfl (.pickT (bo g49) rfl) ?_
                                refine RunT.ot0 (x := .v (.bool (!r50))) rfl rfl rfl rfl (.assignX rfl) ?_
                                refine RunT.nil ?_
                                obtain rfl := si H
                                refine T.sub (sub_to (st' := ⟨[(0, .v (.bool (!r50)))], [], 8, []⟩) [] (by decide) rfl rfl (⟨⟨_, rfl, .one .v⟩, trivial⟩) (trivial)) ?_
                                refine T.ret ?_
                                exact RetOk.same [.v (.bool (!r50))] ⟨rfl, trivial⟩ rfl rfl rfl
                              · replace H := cf H g49
                                refine RunT.xn rfl rfl rfl (bo g49) rfl rfl ?_
                                refine RunT.xn rfl rfl rfl (bo g49) rfl rfl ?_
                                refine RunT.xn rfl rfl rfl (bo g49) rfl rfl ?_
                                refine RunT.xn rfl rfl rfl (bo g49) rfl rfl ?_
                                refine RunT.ot0 (x := .v (.bool false)) rfl rfl rfl rfl (.pickF (bo g49) rfl) ?_
                                refine RunT.ot0 (x := .v (.bool false)) rfl rfl rfl rfl (.assignX rfl) ?_
                                refine RunT.nil ?_
                                obtain rfl := si H
                                refine T.sub (sub_to (st' := ⟨[(0, .v (.bool false))], [], 8, []⟩) [] (by decide) rfl rfl (⟨⟨_, rfl, .one .v⟩, trivial⟩) (trivial)) ?_
                                refine T.ret ?_
                                exact RetOk.same [.v (.bool false)] ⟨rfl, trivial⟩ rfl rfl rfl
                            · replace H := cf H g46
                              refine RunT.xn rfl rfl rfl (bo g46) rfl rfl ?_
                              refine RunT.xn rfl rfl rfl (bo g46) rfl rfl ?_
                              refine RunT.xn rfl rfl rfl (bo g46) rfl rfl ?_
                              refine RunT.xn rfl rfl rfl (bo g46) rfl rfl ?_
                              refine RunT.xn rfl rfl rfl (bo g46) rfl rfl ?_
                              refine RunT.ot0 (x := .v (.bool false)) rfl rfl rfl rfl (.pickF (bo g46) rfl) ?_
                              refine RunT.ot0 (x := .v (.bool false)) rfl rfl rfl rfl (.moveX rfl) ?_
                              refine RunT.xn rfl rfl rfl rfl rfl rfl ?_
                              refine RunT.xn rfl rfl rfl rfl rfl rfl ?_
                              refine RunT.xn rfl rfl rfl rfl rfl rfl ?_
                              refine RunT.xn rfl rfl rfl rfl rfl rfl ?_
                              refine RunT.ot0 (x := .v (.bool false)) rfl rfl rfl rfl (.pickF rfl rfl) ?_
                              refine RunT.ot0 (x := .v (.bool false)) rfl rfl rfl rfl (.assignX rfl) ?_
                              refine RunT.nil ?_
                              obtain rfl := si H
                              refine T.sub (sub_to (st' := ⟨[(0, .v (.bool false))], [], 8, []⟩) [] (by decide) rfl rfl (⟨⟨_, rfl, .one .v⟩, trivial⟩) (trivial)) ?_
                              refine T.ret ?_
                              exact RetOk.same [.v (.bool false)] ⟨rfl, trivial⟩ rfl rfl rfl
                          · replace H := cf H g43
                            refine RunT.xn rfl rfl rfl (bo g43) rfl rfl ?_
                            refine RunT.xn rfl rfl rfl (bo g43) rfl rfl ?_
                            refine RunT.xn rfl rfl rfl (bo g43) rfl rfl ?_
                            refine RunT.xn rfl rfl rfl (bo g43) rfl rfl ?_
                            refine RunT.ot0 (x := .v (.bool false)) rfl rfl rfl rfl (.pickF (bo g43) rfl) ?_
                            refine RunT.ot0 (x := .v (.bool false)) rfl rfl rfl rfl (.moveX rfl) ?_
                            refine RunT.xn rfl rfl rfl rfl rfl rfl ?_
                            refine RunT.xn rfl rfl rfl rfl rfl rfl ?_
                            refine RunT.xn rfl rfl rfl rfl rfl rfl ?_
                            refine RunT.xn rfl rfl rfl rfl rfl rfl ?_
                            refine RunT.xn rfl rfl rfl rfl rfl rfl ?_
                            refine RunT.ot0 (x := .v (.bool false)) rfl rfl rfl rfl (.pickF rfl rfl) ?_
                            refine RunT.ot0 (x := .v (.bool false)) rfl rfl rfl rfl (.moveX rfl) ?_
                            refine RunT.xn rfl rfl rfl rfl rfl rfl ?_
                            refine RunT.xn rfl rfl rfl rfl rfl rfl ?_
                            refine RunT.xn rfl rfl rfl rfl rfl rfl ?_
                            refine RunT.xn rfl rfl rfl rfl rfl rfl ?_
                            refine RunT.ot0 (x := .v (.bool false)) rfl rfl rfl rfl (.pickF rfl rfl) ?_
                            refine RunT.ot0 (x := .v (.bool false)) rfl rfl rfl rfl (.assignX rfl) ?_
                            refine RunT.nil ?_
                            obtain rfl := si H
                            refine T.sub (sub_to (st' := ⟨[(0, .v (.bool false))], [], 8, []⟩) [] (by decide) rfl rfl (⟨⟨_, rfl, .one .v⟩, trivial⟩) (trivial)) ?_
                            refine T.ret ?_
                            exact RetOk.same [.v (.bool false)] ⟨rfl, trivial⟩ rfl rfl rfl
                        · replace H := cf H g40
                          refine RunT.xn rfl rfl rfl (bo g40) rfl rfl ?_
                          refine RunT.xn rfl rfl rfl (bo g40) rfl rfl ?_
                          refine RunT.xn rfl rfl rfl (bo g40) rfl rfl ?_
                          refine RunT.xn rfl rfl rfl (bo g40) rfl rfl ?_
                          refine RunT.xn rfl rfl rfl (bo g40) rfl rfl ?_
                          refine RunT.ot0 (x := .v (.bool false)) rfl rfl rfl rfl (.pickF (bo g40) rfl) ?_
                          refine RunT.ot0 (x := .v (.bool false)) rfl rfl rfl rfl (.moveX rfl) ?_
                          refine RunT.xn rfl rfl rfl rfl rfl rfl ?_
                          refine RunT.xn rfl rfl rfl rfl rfl rfl ?_
                          refine RunT.xn rfl rfl rfl rfl rfl rfl ?_
                          refine RunT.xn rfl rfl rfl rfl rfl rfl ?_
                          refine RunT.ot0 (x := .v (.bool false)) rfl rfl rfl rfl (.pickF rfl rfl) ?_
                          refine RunT.ot0 (x := .v (.bool false)) rfl rfl rfl rfl (.moveX rfl) ?_
                          refine RunT.xn rfl rfl rfl rfl rfl rfl ?_
                          refine RunT.xn rfl rfl rfl rfl rfl rfl ?_
                          refine RunT.xn rfl rfl rfl rfl rfl rfl ?_
                          refine RunT.xn rfl rfl rfl rfl rfl rfl ?_
                          refine RunT.xn rfl rfl rfl rfl rfl rfl ?_
                          refine RunT.ot0 (x := .v (.bool false)) rfl rfl rfl rfl (.pickF rfl rfl) ?_
                          refine RunT.ot0 (x := .v (.bool false)) rfl rfl rfl rfl (.moveX rfl) ?_
                          refine RunT.xn rfl rfl rfl rfl rfl rfl ?_
                          refine RunT.xn rfl rfl rfl rfl rfl rfl ?_
                          refine RunT.xn rfl rfl rfl rfl rfl rfl ?_
                          refine RunT.xn rfl rfl rfl rfl rfl rfl ?_
                          refine RunT.ot0 (x := .v (.bool false)) rfl rfl rfl rfl (.pickF rfl rfl) ?_
                          refine RunT.ot0 (x := .v (.bool false)) rfl rfl rfl rfl (.assignX rfl) ?_
                          refine RunT.nil ?_
                          obtain rfl := si H
                          refine T.sub (sub_to (st' := ⟨[(0, .v (.bool false))], [], 8, []⟩) [] (by decide) rfl rfl (⟨⟨_, rfl, .one .v⟩, trivial⟩) (trivial)) ?_
                          refine T.ret ?_
                          exact RetOk.same [.v (.bool false)] ⟨rfl, trivial⟩ rfl rfl rfl
                      · replace H := cf H g37
                        refine RunT.xn rfl rfl rfl (bo g37) rfl rfl ?_
                        refine RunT.xn rfl rfl rfl (bo g37) rfl rfl ?_
                        refine RunT.xn rfl rfl rfl (bo g37) rfl rfl ?_
                        refine RunT.xn rfl rfl rfl (bo g37) rfl rfl ?_
                        refine RunT.ot0 (x := .v (.bool false)) rfl rfl rfl rfl (.pickF (bo g37) rfl) ?_
                        refine RunT.ot0 (x := .v (.bool false)) rfl rfl rfl rfl (.moveX rfl) ?_
                        refine RunT.xn rfl rfl rfl rfl rfl rfl ?_
                        refine RunT.xn rfl rfl rfl rfl rfl rfl ?_
                        refine RunT.xn rfl rfl rfl rfl rfl rfl ?_
                        refine RunT.xn rfl rfl rfl rfl rfl rfl ?_
                        refine RunT.xn rfl rfl rfl rfl rfl rfl ?_
                        refine RunT.ot0 (x := .v (.bool false)) rfl rfl rfl rfl (.pickF rfl rfl) ?_
                        refine RunT.ot0 (x := .v (.bool false)) rfl rfl rfl rfl (.moveX rfl) ?_
                        refine RunT.xn rfl rfl rfl rfl rfl rfl ?_
                        refine RunT.xn rfl rfl rfl rfl rfl rfl ?_
                        refine RunT.xn rfl rfl rfl rfl rfl rfl ?_
                        refine RunT.xn rfl rfl rfl rfl rfl rfl ?_
                        refine RunT.ot0 (x := .v (.bool false)) rfl rfl rfl rfl (.pickF rfl rfl) ?_
                        refine RunT.ot0 (x := .v (.bool false)) rfl rfl rfl rfl (.moveX rfl) ?_
                        refine RunT.xn rfl rfl rfl rfl rfl rfl ?_
                        refine RunT.xn rfl rfl rfl rfl rfl rfl ?_
                        refine RunT.xn rfl rfl rfl rfl rfl rfl ?_
                        refine RunT.xn rfl rfl rfl rfl rfl rfl ?_
                        refine RunT.xn rfl rfl rfl rfl rfl rfl ?_
                        refine RunT.ot0 (x := .v (.bool false)) rfl rfl rfl rfl (.pickF rfl rfl) ?_
                        refine RunT.ot0 (x := .v (.bool false)) rfl rfl rfl rfl (.moveX rfl) ?_
                        refine RunT.xn rfl rfl rfl rfl rfl rfl ?_
                        refine RunT.xn rfl rfl rfl rfl rfl rfl ?_
                        refine RunT.xn rfl rfl rfl rfl rfl rfl ?_
                        refine RunT.xn rfl rfl rfl rfl rfl rfl ?_
                        refine RunT.ot0 (x := .v (.bool false)) rfl rfl rfl rfl (.pickF rfl rfl) ?_
                        refine RunT.ot0 (x := .v (.bool false)) rfl rfl rfl rfl (.assignX rfl) ?_
                        refine RunT.nil ?_
                        obtain rfl := si H
                        refine T.sub (sub_to (st' := ⟨[(0, .v (.bool false))], [], 8, []⟩) [] (by decide) rfl rfl (⟨⟨_, rfl, .one .v⟩, trivial⟩) (trivial)) ?_
                        refine T.ret ?_
                        exact RetOk.same [.v (.bool false)] ⟨rfl, trivial⟩ rfl rfl rfl
                    · replace H := cf H g32
                      refine RunT.xn rfl rfl rfl (bo g32) rfl rfl ?_
                      refine RunT.xn rfl rfl rfl (bo g32) rfl rfl ?_
                      refine RunT.xn rfl rfl rfl (bo g32) rfl rfl ?_
                      refine RunT.xn rfl rfl rfl (bo g32) rfl rfl ?_
                      refine RunT.xn rfl rfl rfl (bo g32) rfl rfl ?_
                      refine RunT.ot0 (x := .v (.bool false)) rfl rfl rfl rfl (.pickF (bo g32) rfl) ?_
                      refine RunT.ot0 (x := .v (.bool false)) rfl rfl rfl rfl (.moveX rfl) ?_
                      refine RunT.xn rfl rfl rfl rfl rfl rfl ?_
                      refine RunT.xn rfl rfl rfl rfl rfl rfl ?_
                      refine RunT.xn rfl rfl rfl rfl rfl rfl ?_
                      refine RunT.xn rfl rfl rfl rfl rfl rfl ?_
                      refine RunT.ot0 (x := .v (.bool false)) rfl rfl rfl rfl (.pickF rfl rfl) ?_
                      refine RunT.ot0 (x := .v (.bool false)) rfl rfl rfl rfl (.moveX rfl) ?_
                      refine RunT.xn rfl rfl rfl rfl rfl rfl ?_
                      refine RunT.xn rfl rfl rfl rfl rfl rfl ?_
                      refine RunT.xn rfl rfl rfl rfl rfl rfl ?_
                      refine RunT.xn rfl rfl rfl rfl rfl rfl ?_
                      refine RunT.xn rfl rfl rfl rfl rfl rfl ?_
                      refine RunT.ot0 (x := .v (.bool false)) rfl rfl rfl rfl (.pickF rfl rfl) ?_
                      refine RunT.ot0 (x := .v (.bool false)) rfl rfl rfl rfl (.moveX rfl) ?_
                      refine RunT.xn rfl rfl rfl rfl rfl rfl ?_
                      refine RunT.xn rfl rfl rfl rfl rfl rfl ?_
                      refine RunT.xn rfl rfl rfl rfl rfl rfl ?_
                      refine RunT.xn rfl rfl rfl rfl rfl rfl ?_
                      refine RunT.ot0 (x := .v (.bool false)) rfl rfl rfl rfl (.pickF rfl rfl) ?_
                      refine RunT.ot0 (x := .v (.bool false)) rfl rfl rfl rfl (.moveX rfl) ?_
                      refine RunT.xn rfl rfl rfl rfl rfl rfl ?_
                      refine RunT.xn rfl rfl rfl rfl rfl rfl ?_
                      refine RunT.xn rfl rfl rfl rfl rfl rfl ?_
                      refine RunT.xn rfl rfl rfl rfl rfl rfl ?_
                      refine RunT.xn rfl rfl rfl rfl rfl rfl ?_
                      refine RunT.ot0 (x := .v (.bool false)) rfl rfl rfl rfl (.pickF rfl rfl) ?_
                      refine RunT.ot0 (x := .v (.bool false)) rfl rfl rfl rfl (.moveX rfl) ?_
                      refine RunT.xn rfl rfl rfl rfl rfl rfl ?_
                      refine RunT.xn rfl rfl rfl rfl rfl rfl ?_
                      refine RunT.xn rfl rfl rfl rfl rfl rfl ?_
                      refine RunT.xn rfl rfl rfl rfl rfl rfl ?_
                      refine RunT.ot0 (x := .v (.bool false)) rfl rfl rfl rfl (.pickF rfl rfl) ?_
                      refine RunT.ot0 (x := .v (.bool false)) rfl rfl rfl rfl (.assignX rfl) ?_
                      refine RunT.nil ?_
                      obtain rfl := si H
                      refine T.sub (sub_to (st' := ⟨[(0, .v (.bool false))], [], 8, []⟩) [] (by decide) rfl rfl (⟨⟨_, rfl, .one .v⟩, trivial⟩) (trivial)) ?_
                      refine T.ret ?_
                      exact RetOk.same [.v (.bool false)] ⟨rfl, trivial⟩ rfl rfl rfl
                  · replace H := cf H g27
                    refine RunT.xn rfl rfl rfl (bo g27) rfl rfl ?_
                    refine RunT.xn rfl rfl rfl (bo g27) rfl rfl ?_
                    refine RunT.xn rfl rfl rfl (bo g27) rfl rfl ?_
                    refine RunT.xn rfl rfl rfl (bo g27) rfl rfl ?_
                    refine RunT.xn rfl rfl rfl (bo g27) rfl rfl ?_
                    refine RunT.ot0 (x := .v (.bool false)) rfl rfl rfl rfl (.pickF (bo g27) rfl) ?_
                    refine RunT.ot0 (x := .v (.bool false)) rfl rfl rfl rfl (.moveX rfl) ?_
                    refine RunT.xn rfl rfl rfl rfl rfl rfl ?_
                    refine RunT.xn rfl rfl rfl rfl rfl rfl ?_
                    refine RunT.xn rfl rfl rfl rfl rfl rfl ?_
                    refine RunT.xn rfl rfl rfl rfl rfl rfl ?_
                    refine RunT.xn rfl rfl rfl rfl rfl rfl ?_
                    refine RunT.ot0 (x := .v (.bool false)) rfl rfl rfl rfl (.pickF rfl rfl) ?_
                    refine RunT.ot0 (x := .v (.bool false)) rfl rfl rfl rfl (.moveX rfl) ?_
                    refine RunT.xn rfl rfl rfl rfl rfl rfl ?_
                    refine RunT.xn rfl rfl rfl rfl rfl rfl ?_
                    refine RunT.xn rfl rfl rfl rfl rfl rfl ?_
                    refine RunT.xn rfl rfl rfl rfl rfl rfl ?_
                    refine RunT.ot0 (x := .v (.bool false)) rfl rfl rfl rfl (.pickF rfl rfl) ?_
                    refine RunT.ot0 (x := .v (.bool false)) rfl rfl rfl rfl (.moveX rfl) ?_
                    refine RunT.xn rfl rfl rfl rfl rfl rfl ?_
                    refine RunT.xn rfl rfl rfl rfl rfl rfl ?_
                    refine RunT.xn rfl rfl rfl rfl rfl rfl ?_
                    refine RunT.xn rfl rfl rfl rfl rfl rfl ?_
                    refine RunT.xn rfl rfl rfl rfl rfl rfl ?_
                    refine RunT.ot0 (x := .v (.bool false)) rfl rfl rfl rfl (.pickF rfl rfl) ?_
                    refine RunT.ot0 (x := .v (.bool false)) rfl rfl rfl rfl (.moveX rfl) ?_
                    refine RunT.xn rfl rfl rfl rfl rfl rfl ?_
                    refine RunT.xn rfl rfl rfl rfl rfl rfl ?_
                    refine RunT.xn rfl rfl rfl rfl rfl rfl ?_
                    refine RunT.xn rfl rfl rfl rfl rfl rfl ?_
                    refine RunT.ot0 (x := .v (.bool false)) rfl rfl rfl rfl (.pickF rfl rfl) ?_
                    refine RunT.ot0 (x := .v (.bool false)) rfl rfl rfl rfl (.moveX rfl) ?_
                    refine RunT.xn rfl rfl rfl rfl rfl rfl ?_
                    refine RunT.xn rfl rfl rfl rfl rfl rfl ?_
                    refine RunT.xn rfl rfl rfl rfl rfl rfl ?_
                    refine RunT.xn rfl rfl rfl rfl rfl rfl ?_
                    refine RunT.xn rfl rfl rfl rfl rfl rfl ?_
                    refine RunT.ot0 (x := .v (.bool false)) rfl rfl rfl rfl (.pickF rfl rfl) ?_
                    refine RunT.ot0 (x := .v (.bool false)) rfl rfl rfl rfl (.moveX rfl) ?_
                    refine RunT.xn rfl rfl rfl rfl rfl rfl ?_
                    refine RunT.xn rfl rfl rfl rfl rfl rfl ?_
                    refine RunT.xn rfl rfl rfl rfl rfl rfl ?_
                    refine RunT.xn rfl rfl rfl rfl rfl rfl ?_
                    refine RunT.ot0 (x := .v (.bool false)) rfl rfl rfl rfl (.pickF rfl rfl) ?_
                    refine RunT.ot0 (x := .v (.bool false)) rfl rfl rfl rfl (.assignX rfl) ?_
                    refine RunT.nil ?_
                    obtain rfl := si H
                    refine T.sub (sub_to (st' := ⟨[(0, .v (.bool false))], [], 8, []⟩) [] (by decide) rfl rfl (⟨⟨_, rfl, .one .v⟩, trivial⟩) (trivial)) ?_
                    refine T.ret ?_
                    exact RetOk.same [.v (.bool false)] ⟨rfl, trivial⟩ rfl rfl rfl
                · replace H := cf H g22
                  refine RunT.xn rfl rfl rfl (bo g22) rfl rfl ?_
                  refine RunT.xn rfl rfl rfl (bo g22) rfl rfl ?_
                  refine RunT.xn rfl rfl rfl (bo g22) rfl rfl ?_
                  refine RunT.xn rfl rfl rfl (bo g22) rfl rfl ?_
                  refine RunT.xn rfl rfl rfl (bo g22) rfl rfl ?_
                  refine RunT.ot0 (x := .v (.bool false)) rfl rfl rfl rfl (.pickF (bo g22) rfl) ?_
                  refine RunT.ot0 (x := .v (.bool false)) rfl rfl rfl rfl (.moveX rfl) ?_
                  refine RunT.xn rfl rfl rfl rfl rfl rfl ?_
                  refine RunT.xn rfl rfl rfl rfl rfl rfl ?_
                  refine RunT.xn rfl rfl rfl rfl rfl rfl ?_
                  refine RunT.xn rfl rfl rfl rfl rfl rfl ?_
                  refine RunT.xn rfl rfl rfl rfl rfl rfl ?_
                  refine RunT.ot0 (x := .v (.bool false)) rfl rfl rfl rfl (.pickF rfl rfl) ?_
                  refine RunT.ot0 (x := .v (.bool false)) rfl rfl rfl rfl (.moveX rfl) ?_
                  refine RunT.xn rfl rfl rfl rfl rfl rfl ?_
                  refine RunT.xn rfl rfl rfl rfl rfl rfl ?_
                  refine RunT.xn rfl rfl rfl rfl rfl rfl ?_
                  refine RunT.xn rfl rfl rfl rfl rfl rfl ?_
                  refine RunT.xn rfl rfl rfl rfl rfl rfl ?_
                  refine RunT.ot0 (x := .v (.bool false)) rfl rfl rfl rfl (.pickF rfl rfl) ?_
                  refine RunT.ot0 (x := .v (.bool false)) rfl rfl rfl rfl (.moveX rfl) ?_
                  refine RunT.xn rfl rfl rfl rfl rfl rfl ?_
                  refine RunT.xn rfl rfl rfl rfl rfl rfl ?_
                  refine RunT.xn rfl rfl rfl rfl rfl rfl ?_
                  refine RunT.xn rfl rfl rfl rfl rfl rfl ?_
                  refine RunT.ot0 (x := .v (.bool false)) rfl rfl rfl rfl (.pickF rfl rfl) ?_
                  refine RunT.ot0 (x := .v (.bool false)) rfl rfl rfl rfl (.moveX rfl) ?_
                  refine RunT.xn rfl rfl rfl rfl rfl rfl ?_
                  refine RunT.xn rfl rfl rfl rfl rfl rfl ?_
                  refine RunT.xn rfl rfl rfl rfl rfl rfl ?_
                  refine RunT.xn rfl rfl rfl rfl rfl rfl ?_
                  refine RunT.xn rfl rfl rfl rfl rfl rfl ?_
                  refine RunT.ot0 (x := .v (.bool false)) rfl rfl rfl rfl (.pickF rfl rfl) ?_
                  refine RunT.ot0 (x := .v (.bool false)) rfl rfl rfl rfl (.moveX rfl) ?_
                  refine RunT.xn rfl rfl rfl rfl rfl rfl ?_
                  refine RunT.xn rfl rfl rfl rfl rfl rfl ?_
                  refine RunT.xn rfl rfl rfl rfl rfl rfl ?_
                  refine RunT.xn rfl rfl rfl rfl rfl rfl ?_
                  refine RunT.ot0 (x := .v (.bool false)) rfl rfl rfl rfl (.pickF rfl rfl) ?_
                  refine RunT.ot0 (x := .v (.bool false)) rfl rfl rfl rfl (.moveX rfl) ?_
                  refine RunT.xn rfl rfl rfl rfl rfl rfl ?_
                  refine RunT.xn rfl rfl rfl rfl rfl rfl ?_
                  refine RunT.xn rfl rfl rfl rfl rfl rfl ?_
                  refine RunT.xn rfl rfl rfl rfl rfl rfl ?_
                  refine RunT.xn rfl rfl rfl rfl rfl rfl ?_
                  refine RunT.ot0 (x := .v (.bool false)) rfl rfl rfl rfl (.pickF rfl rfl) ?_
                  refine RunT.ot0 (x := .v (.bool false)) rfl rfl rfl rfl (.moveX rfl) ?_
                  refine RunT.xn rfl rfl rfl rfl rfl rfl ?_
                  refine RunT.xn rfl rfl rfl rfl rfl rfl ?_
                  refine RunT.xn rfl rfl rfl rfl rfl rfl ?_
                  refine RunT.xn rfl rfl rfl rfl rfl rfl ?_
                  refine RunT.ot0 (x := .v (.bool false)) rfl rfl rfl rfl (.pickF rfl rfl) ?_
                  refine RunT.ot0 (x := .v (.bool false)) rfl rfl rfl rfl (.assignX rfl) ?_
                  refine RunT.nil ?_
                  obtain rfl := si H
                  refine T.sub (sub_to (st' := ⟨[(0, .v (.bool false))], [], 8, []⟩) [] (by decide) rfl rfl (⟨⟨_, rfl, .one .v⟩, trivial⟩) (trivial)) ?_
                  refine T.ret ?_
                  exact RetOk.same [.v (.bool false)] ⟨rfl, trivial⟩ rfl rfl rfl
              · replace H := cf H g19
                refine RunT.xn rfl rfl rfl (bo g19) rfl rfl ?_
                refine RunT.xn rfl rfl rfl (bo g19) rfl rfl ?_
                refine RunT.xn rfl rfl rfl (bo g19) rfl rfl ?_
                refine RunT.xn rfl rfl rfl (bo g19) rfl rfl ?_
                refine RunT.ot0 (x := .v (.bool false)) rfl rfl rfl rfl (.pickF (bo g19) rfl) ?_
                refine RunT.ot0 (x := .v (.bool false)) rfl rfl rfl rfl (.moveX rfl) ?_
                refine RunT.xn rfl rfl rfl rfl rfl rfl ?_
                refine RunT.xn rfl rfl rfl rfl rfl rfl ?_
                refine RunT.xn rfl rfl rfl rfl rfl rfl ?_
                refine RunT.xn rfl rfl rfl rfl rfl rfl ?_
                refine RunT.xn rfl rfl rfl rfl rfl rfl ?_
                refine RunT.ot0 (x := .v (.bool false)) rfl rfl rfl rfl (.pickF rfl rfl) ?_
                refine RunT.ot0 (x := .v (.bool false)) rfl rfl rfl rfl (.moveX rfl) ?_
                refine RunT.xn rfl rfl rfl rfl rfl rfl ?_
                refine RunT.xn rfl rfl rfl rfl rfl rfl ?_
                refine RunT.xn rfl rfl rfl rfl rfl rfl ?_
                refine RunT.xn rfl rfl rfl rfl rfl rfl ?_
                refine RunT.xn rfl rfl rfl rfl rfl rfl ?_
                refine RunT.ot0 (x := .v (.bool false)) rfl rfl rfl rfl (.pickF rfl rfl) ?_
                refine RunT.ot0 (x := .v (.bool false)) rfl rfl rfl rfl (.moveX rfl) ?_
                refine RunT.xn rfl rfl rfl rfl rfl rfl ?_
                refine RunT.xn rfl rfl rfl rfl rfl rfl ?_
                refine RunT.xn rfl rfl rfl rfl rfl rfl ?_
                refine RunT.xn rfl rfl rfl rfl rfl rfl ?_
                refine RunT.xn rfl rfl rfl rfl rfl rfl ?_
                refine RunT.ot0 (x := .v (.bool false)) rfl rfl rfl rfl (.pickF rfl rfl) ?_
                refine RunT.ot0 (x := .v (.bool false)) rfl rfl rfl rfl (.moveX rfl) ?_
                refine RunT.xn rfl rfl rfl rfl rfl rfl ?_
                refine RunT.xn rfl rfl rfl rfl rfl rfl ?_
                refine RunT.xn rfl rfl rfl rfl rfl rfl ?_
                refine RunT.xn rfl rfl rfl rfl rfl rfl ?_
                refine RunT.ot0 (x := .v (.bool false)) rfl rfl rfl rfl (.pickF rfl rfl) ?_
                refine RunT.ot0 (x := .v (.bool false)) rfl rfl rfl rfl (.moveX rfl) ?_
                refine RunT.xn rfl rfl rfl rfl rfl rfl ?_
                refine RunT.xn rfl rfl rfl rfl rfl rfl ?_
                refine RunT.xn rfl rfl rfl rfl rfl rfl ?_
                refine RunT.xn rfl rfl rfl rfl rfl rfl ?_
                refine RunT.xn rfl rfl rfl rfl rfl rfl ?_
                refine RunT.ot0 (x := .v (.bool false)) rfl rfl rfl rfl (.pickF rfl rfl) ?_
                refine RunT.ot0 (x := .v (.bool false)) rfl rfl rfl rfl (.moveX rfl) ?_
                refine RunT.xn rfl rfl rfl rfl rfl rfl ?_
                refine RunT.xn rfl rfl rfl rfl rfl rfl ?_
                refine RunT.xn rfl rfl rfl rfl rfl rfl ?_
                refine RunT.xn rfl rfl rfl rfl rfl rfl ?_
                refine RunT.ot0 (x := .v (.bool false)) rfl rfl rfl rfl (.pickF rfl rfl) ?_
                refine RunT.ot0 (x := .v (.bool false)) rfl rfl rfl rfl (.moveX rfl) ?_
                refine RunT.xn rfl rfl rfl rfl rfl rfl ?_
                refine RunT.xn rfl rfl rfl rfl rfl rfl ?_
                refine RunT.xn rfl rfl rfl rfl rfl rfl ?_
                refine RunT.xn rfl rfl rfl rfl rfl rfl ?_
                refine RunT.xn rfl rfl rfl rfl rfl rfl ?_
                refine RunT.ot0 (x := .v (.bool false)) rfl rfl rfl rfl (.pickF rfl rfl) ?_
                refine RunT.ot0 (x := .v (.bool false)) rfl rfl rfl rfl (.moveX rfl) ?_
                refine RunT.xn rfl rfl rfl rfl rfl rfl ?_
                refine RunT.xn rfl rfl rfl rfl rfl rfl ?_
                refine RunT.xn rfl rfl rfl rfl rfl rfl ?_
                refine RunT.xn rfl rfl rfl rfl rfl rfl ?_
                refine RunT.ot0 (x := .v (.bool false)) rfl rfl rfl rfl (.pickF rfl rfl) ?_
                refine RunT.ot0 (x := .v (.bool false)) rfl rfl rfl rfl (.assignX rfl) ?_
                refine RunT.nil ?_
                obtain rfl := si H
                refine T.sub (sub_to (st' := ⟨[(0, .v (.bool false))], [], 8, []⟩) [] (by decide) rfl rfl (⟨⟨_, rfl, .one .v⟩, trivial⟩) (trivial)) ?_
                refine T.ret ?_
                exact RetOk.same [.v (.bool false)] ⟨rfl, trivial⟩ rfl rfl rfl
            · replace H := cf H g18
              refine RunT.xn rfl rfl rfl (bo g18) rfl rfl ?_
              refine RunT.xn rfl rfl rfl (bo g18) rfl rfl ?_
              refine RunT.xn rfl rfl rfl (bo g18) rfl rfl ?_
              refine RunT.ot0 (x := .v (.bool false)) rfl rfl rfl rfl (.pickF (bo g18) rfl) ?_
              refine RunT.ot0 (x := .v (.bool false)) rfl rfl rfl rfl (.moveX rfl) ?_
              refine RunT.xn rfl rfl rfl rfl rfl rfl ?_
              refine RunT.xn rfl rfl rfl rfl rfl rfl ?_
              refine RunT.xn rfl rfl rfl rfl rfl rfl ?_
              refine RunT.xn rfl rfl rfl rfl rfl rfl ?_
              refine RunT.ot0 (x := .v (.bool false)) rfl rfl rfl rfl (.pickF rfl rfl) ?_
              refine RunT.ot0 (x := .v (.bool false)) rfl rfl rfl rfl (.moveX rfl) ?_
              refine RunT.xn rfl rfl rfl rfl rfl rfl ?_
              refine RunT.xn rfl rfl rfl rfl rfl rfl ?_
              refine RunT.xn rfl rfl rfl rfl rfl rfl ?_
              refine RunT.xn rfl rfl rfl rfl rfl rfl ?_
              refine RunT.xn rfl rfl rfl rfl rfl rfl ?_
              refine RunT.ot0 (x := .v (.bool false)) rfl rfl rfl rfl (.pickF rfl rfl) ?_
              refine RunT.ot0 (x := .v (.bool false)) rfl rfl rfl rfl (.moveX rfl) ?_
              refine RunT.xn rfl rfl rfl rfl rfl rfl ?_
              refine RunT.xn rfl rfl rfl rfl rfl rfl ?_
              refine RunT.xn rfl rfl rfl rfl rfl rfl ?_
              refine RunT.xn rfl rfl rfl rfl rfl rfl ?_
              refine RunT.xn rfl rfl rfl rfl rfl rfl ?_
              refine RunT.ot0 (x := .v (.bool false)) rfl rfl rfl rfl (.pickF rfl rfl) ?_
              refine RunT.ot0 (x := .v (.bool false)) rfl rfl rfl rfl (.moveX rfl) ?_
              refine RunT.xn rfl rfl rfl rfl rfl rfl ?_
              refine RunT.xn rfl rfl rfl rfl rfl rfl ?_
              refine RunT.xn rfl rfl rfl rfl rfl rfl ?_
              refine RunT.xn rfl rfl rfl rfl rfl rfl ?_
              refine RunT.xn rfl rfl rfl rfl rfl rfl ?_
              refine RunT.ot0 (x := .v (.bool false)) rfl rfl rfl rfl (.pickF rfl rfl) ?_
              refine RunT.ot0 (x := .v (.bool false)) rfl rfl rfl rfl (.moveX rfl) ?_
              refine RunT.xn rfl rfl rfl rfl rfl rfl ?_
              refine RunT.xn rfl rfl rfl rfl rfl rfl ?_
              refine RunT.xn rfl rfl rfl rfl rfl rfl ?_
              refine RunT.xn rfl rfl rfl rfl rfl rfl ?_
              refine RunT.ot0 (x := .v (.bool false)) rfl rfl rfl rfl (.pickF rfl rfl) ?_
              refine RunT.ot0 (x := .v (.bool false)) rfl rfl rfl rfl (.moveX rfl) ?_
              refine RunT.xn rfl rfl rfl rfl rfl rfl ?_
              refine RunT.xn rfl rfl rfl rfl rfl rfl ?_
              refine RunT.xn rfl rfl rfl rfl rfl rfl ?_
              refine RunT.xn rfl rfl rfl rfl rfl rfl ?_
              refine RunT.xn rfl rfl rfl rfl rfl rfl ?_
              refine RunT.ot0 (x := .v (.bool false)) rfl rfl rfl rfl (.pickF rfl rfl) ?_
              refine RunT.ot0 (x := .v (.bool false)) rfl rfl rfl rfl (.moveX rfl) ?_
              refine RunT.xn rfl rfl rfl rfl rfl rfl ?_
              refine RunT.xn rfl rfl rfl rfl rfl rfl ?_
              refine RunT.xn rfl rfl rfl rfl rfl rfl ?_
              refine RunT.xn rfl rfl rfl rfl rfl rfl ?_
              refine RunT.ot0 (x := .v (.bool false)) rfl rfl rfl rfl (.pickF rfl rfl) ?_
              refine RunT.ot0 (x := .v (.bool false)) rfl rfl rfl rfl (.moveX rfl) ?_
              refine RunT.xn rfl rfl rfl rfl rfl rfl ?_
              refine RunT.xn rfl rfl rfl rfl rfl rfl ?_
              refine RunT.xn rfl rfl rfl rfl rfl rfl ?_
              refine RunT.xn rfl rfl rfl rfl rfl rfl ?_
              refine RunT.xn rfl rfl rfl rfl rfl rfl ?_
              refine RunT.ot0 (x := .v (.bool false)) rfl rfl rfl rfl (.pickF rfl rfl) ?_
              refine RunT.ot0 (x := .v (.bool false)) rfl rfl rfl rfl (.moveX rfl) ?_
              refine RunT.xn rfl rfl rfl rfl rfl rfl ?_
              refine RunT.xn rfl rfl rfl rfl rfl rfl ?_
              refine RunT.xn rfl rfl rfl rfl rfl rfl ?_
              refine RunT.xn rfl rfl rfl rfl rfl rfl ?_
              refine RunT.ot0 (x := .v (.bool false)) rfl rfl rfl rfl (.pickF rfl rfl) ?_
              refine RunT.ot0 (x := .v (.bool false)) rfl rfl rfl rfl (.assignX rfl) ?_
              refine RunT.nil ?_
              obtain rfl := si H
              refine T.sub (sub_to (st' := ⟨[(0, .v (.bool false))], [], 8, []⟩) [] (by decide) rfl rfl (⟨⟨_, rfl, .one .v⟩, trivial⟩) (trivial)) ?_
              refine T.ret ?_
              exact RetOk.same [.v (.bool false)] ⟨rfl, trivial⟩ rfl rfl rfl
          · replace H := cf H g17
            refine RunT.xn rfl rfl rfl (bo g17) rfl rfl ?_
            refine RunT.ot0 (x := .v (.bool false)) rfl rfl rfl rfl (.pickF (bo g17) rfl) ?_
            refine RunT.ot0 (x := .v (.bool false)) rfl rfl rfl rfl (.moveX rfl) ?_
            refine RunT.xn rfl rfl rfl rfl rfl rfl ?_
            refine RunT.xn rfl rfl rfl rfl rfl rfl ?_
            refine RunT.xn rfl rfl rfl rfl rfl rfl ?_
            refine RunT.ot0 (x := .v (.bool false)) rfl rfl rfl rfl (.pickF rfl rfl) ?_
            refine RunT.ot0 (x := .v (.bool false)) rfl rfl rfl rfl (.moveX rfl) ?_
            refine RunT.xn rfl rfl rfl rfl rfl rfl ?_
            refine RunT.xn rfl rfl rfl rfl rfl rfl ?_
            refine RunT.xn rfl rfl rfl rfl rfl rfl ?_
            refine RunT.xn rfl rfl rfl rfl rfl rfl ?_
            refine RunT.ot0 (x := .v (.bool false)) rfl rfl rfl rfl (.pickF rfl rfl) ?_
            refine RunT.ot0 (x := .v (.bool false)) rfl rfl rfl rfl (.moveX rfl) ?_
            refine RunT.xn rfl rfl rfl rfl rfl rfl ?_
            refine RunT.xn rfl rfl rfl rfl rfl rfl ?_
            refine RunT.xn rfl rfl rfl rfl rfl rfl ?_
            refine RunT.xn rfl rfl rfl rfl rfl rfl ?_
            refine RunT.xn rfl rfl rfl rfl rfl rfl ?_
            refine RunT.ot0 (x := .v (.bool false)) rfl rfl rfl rfl (.pickF rfl rfl) ?_
            refine RunT.ot0 (x := .v (.bool false)) rfl rfl rfl rfl (.moveX rfl) ?_
            refine RunT.xn rfl rfl rfl rfl rfl rfl ?_
            refine RunT.xn rfl rfl rfl rfl rfl rfl ?_
            refine RunT.xn rfl rfl rfl rfl rfl rfl ?_
            refine RunT.xn rfl rfl rfl rfl rfl rfl ?_
            refine RunT.xn rfl rfl rfl rfl rfl rfl ?_
            refine RunT.ot0 (x := .v (.bool false)) rfl rfl rfl rfl (.pickF rfl rfl) ?_
            refine RunT.ot0 (x := .v (.bool false)) rfl rfl rfl rfl (.moveX rfl) ?_
            refine RunT.xn rfl rfl rfl rfl rfl rfl ?_
            refine RunT.xn rfl rfl rfl rfl rfl rfl ?_
            refine RunT.xn rfl rfl rfl rfl rfl rfl ?_
            refine RunT.xn rfl rfl rfl rfl rfl rfl ?_
            refine RunT.xn rfl rfl rfl rfl rfl rfl ?_
            refine RunT.ot0 (x := .v (.bool false)) rfl rfl rfl rfl (.pickF rfl rfl) ?_
            refine RunT.ot0 (x := .v (.bool false)) rfl rfl rfl rfl (.moveX rfl) ?_
            refine RunT.xn rfl rfl rfl rfl rfl rfl ?_
            refine RunT.xn rfl rfl rfl rfl rfl rfl ?_
            refine RunT.xn rfl rfl rfl rfl rfl rfl ?_
            refine RunT.xn rfl rfl rfl rfl rfl rfl ?_
            refine RunT.ot0 (x := .v (.bool false)) rfl rfl rfl rfl (.pickF rfl rfl) ?_
            refine RunT.ot0 (x := .v (.bool false)) rfl rfl rfl rfl (.moveX rfl) ?_
            refine RunT.xn rfl rfl rfl rfl rfl rfl ?_
            refine RunT.xn rfl rfl rfl rfl rfl rfl ?_
            refine RunT.xn rfl rfl rfl rfl rfl rfl ?_
            refine RunT.xn rfl rfl rfl rfl rfl rfl ?_
            refine RunT.xn rfl rfl rfl rfl rfl rfl ?_
            refine RunT.ot0 (x := .v (.bool false)) rfl rfl rfl rfl (.pickF rfl rfl) ?_
            refine RunT.ot0 (x := .v (.bool false)) rfl rfl rfl rfl (.moveX rfl) ?_
            refine RunT.xn rfl rfl rfl rfl rfl rfl ?_
            refine RunT.xn rfl rfl rfl rfl rfl rfl ?_
            refine RunT.xn rfl rfl rfl rfl rfl rfl ?_
            refine RunT.xn rfl rfl rfl rfl rfl rfl ?_
            refine RunT.ot0 (x := .v (.bool false)) rfl rfl rfl rfl (.pickF rfl rfl) ?_
            refine RunT.ot0 (x := .v (.bool false)) rfl rfl rfl rfl (.moveX rfl) ?_
            refine RunT.xn rfl rfl rfl rfl rfl rfl ?_
            refine RunT.xn rfl rfl rfl rfl rfl rfl ?_
            refine RunT.xn rfl rfl rfl rfl rfl rfl ?_
            refine RunT.xn rfl rfl rfl rfl rfl rfl ?_
            refine RunT.xn rfl rfl rfl rfl rfl rfl ?_
            refine RunT.ot0 (x := .v (.bool false)) rfl rfl rfl rfl (.pickF rfl rfl) ?_
            refine RunT.ot0 (x := .v (.bool false)) rfl rfl rfl rfl (.moveX rfl) ?_
            refine RunT.xn rfl rfl rfl rfl rfl rfl ?_
            refine RunT.xn rfl rfl rfl rfl rfl rfl ?_
            refine RunT.xn rfl rfl rfl rfl rfl rfl ?_
            refine RunT.xn rfl rfl rfl rfl rfl rfl ?_
            refine RunT.ot0 (x := .v (.bool false)) rfl rfl rfl rfl (.pickF rfl rfl) ?_
            refine RunT.ot0 (x := .v (.bool false)) rfl rfl rfl rfl (.assignX rfl) ?_
            refine RunT.nil ?_
            obtain rfl := si H
            refine T.sub (sub_to (st' := ⟨[(0, .v (.bool false))], [], 8, []⟩) [] (by decide) rfl rfl (⟨⟨_, rfl, .one .v⟩, trivial⟩) (trivial)) ?_
            refine T.ret ?_
            exact RetOk.same [.v (.bool false)] ⟨rfl, trivial⟩ rfl rfl rfl
        · replace H := cf H g14
          refine RunT.xn rfl rfl rfl (bo g14) rfl rfl ?_
          refine RunT.xn rfl rfl rfl (bo g14) rfl rfl ?_
          refine RunT.xn rfl rfl rfl (bo g14) rfl rfl ?_
          refine RunT.xn rfl rfl rfl (bo g14) rfl rfl ?_
          refine RunT.ot0 (x := .v (.bool false)) rfl rfl rfl rfl (.pickF (bo g14) rfl) ?_
          refine RunT.ot0 (x := .v (.bool false)) rfl rfl rfl rfl (.moveX rfl) ?_
          refine RunT.xn rfl rfl rfl rfl rfl rfl ?_
          refine RunT.ot0 (x := .v (.bool false)) rfl rfl rfl rfl (.pickF rfl rfl) ?_
          refine RunT.ot0 (x := .v (.bool false)) rfl rfl rfl rfl (.moveX rfl) ?_
          refine RunT.xn rfl rfl rfl rfl rfl rfl ?_
          refine RunT.xn rfl rfl rfl rfl rfl rfl ?_
          refine RunT.xn rfl rfl rfl rfl rfl rfl ?_
          refine RunT.ot0 (x := .v (.bool false)) rfl rfl rfl rfl (.pickF rfl rfl) ?_
          refine RunT.ot0 (x := .v (.bool false)) rfl rfl rfl rfl (.moveX rfl) ?_
          refine RunT.xn rfl rfl rfl rfl rfl rfl ?_
          refine RunT.xn rfl rfl rfl rfl rfl rfl ?_
          refine RunT.xn rfl rfl rfl rfl rfl rfl ?_
          refine RunT.xn rfl rfl rfl rfl rfl rfl ?_
          refine RunT.ot0 (x := .v (.bool false)) rfl rfl rfl rfl (.pickF rfl rfl) ?_
          refine RunT.ot0 (x := .v (.bool false)) rfl rfl rfl rfl (.moveX rfl) ?_
          refine RunT.xn rfl rfl rfl rfl rfl rfl ?_
          refine RunT.xn rfl rfl rfl rfl rfl rfl ?_
          refine RunT.xn rfl rfl rfl rfl rfl rfl ?_
          refine RunT.xn rfl rfl rfl rfl rfl rfl ?_
          refine RunT.xn rfl rfl rfl rfl rfl rfl ?_
          refine RunT.ot0 (x := .v (.bool false)) rfl rfl rfl rfl (.pickF rfl rfl) ?_
          refine RunT.ot0 (x := .v (.bool false)) rfl rfl rfl rfl (.moveX rfl) ?_
          refine RunT.xn rfl rfl rfl rfl rfl rfl ?_
          refine RunT.xn rfl rfl rfl rfl rfl rfl ?_
          refine RunT.xn rfl rfl rfl rfl rfl rfl ?_
          refine RunT.xn rfl rfl rfl rfl rfl rfl ?_
          refine RunT.xn rfl rfl rfl rfl rfl rfl ?_
          refine RunT.ot0 (x := .v (.bool false)) rfl rfl rfl rfl (.pickF rfl rfl) ?_
          refine RunT.ot0 (x := .v (.bool false)) rfl rfl rfl rfl (.moveX rfl) ?_
          refine RunT.xn rfl rfl rfl rfl rfl rfl ?_
          refine RunT.xn rfl rfl rfl rfl rfl rfl ?_
          refine RunT.xn rfl rfl rfl rfl rfl rfl ?_
          refine RunT.xn rfl rfl rfl rfl rfl rfl ?_
          refine RunT.xn rfl rfl rfl rfl rfl rfl ?_
          refine RunT.ot0 (x := .v (.bool false)) rfl rfl rfl rfl (.pickF rfl rfl) ?_
          refine RunT.ot0 (x := .v (.bool false)) rfl rfl rfl rfl (.moveX rfl) ?_
          refine RunT.xn rfl rfl rfl rfl rfl rfl ?_
          refine RunT.xn rfl rfl rfl rfl rfl rfl ?_
          refine RunT.xn rfl rfl rfl rfl rfl rfl ?_
          refine RunT.xn rfl rfl rfl rfl rfl rfl ?_
          refine RunT.ot0 (x := .v (.bool false)) rfl rfl rfl rfl (.pickF rfl rfl) ?_
          refine RunT.ot0 (x := .v (.bool false)) rfl rfl rfl rfl (.moveX rfl) ?_
          refine RunT.xn rfl rfl rfl rfl rfl rfl ?_
          refine RunT.xn rfl rfl rfl rfl rfl rfl ?_
          refine RunT.xn rfl rfl rfl rfl rfl rfl ?_
          refine RunT.xn rfl rfl rfl rfl rfl rfl ?_
          refine RunT.xn rfl rfl rfl rfl rfl rfl ?_
          refine RunT.ot0 (x := .v (.bool false)) rfl rfl rfl rfl (.pickF rfl rfl) ?_
          refine RunT.ot0 (x := .v (.bool false)) rfl rfl rfl rfl (.moveX rfl) ?_
          refine RunT.xn rfl rfl rfl rfl rfl rfl ?_
          refine RunT.xn rfl rfl rfl rfl rfl rfl ?_
          refine RunT.xn rfl rfl rfl rfl rfl rfl ?_
          refine RunT.xn rfl rfl rfl rfl rfl rfl ?_
          refine RunT.ot0 (x := .v (.bool false)) rfl rfl rfl rfl (.pickF rfl rfl) ?_
          refine RunT.ot0 (x := .v (.bool false)) rfl rfl rfl rfl (.moveX rfl) ?_
          refine RunT.xn rfl rfl rfl rfl rfl rfl ?_
          refine RunT.xn rfl rfl rfl rfl rfl rfl ?_
          refine RunT.xn rfl rfl rfl rfl rfl rfl ?_
          refine RunT.xn rfl rfl rfl rfl rfl rfl ?_
          refine RunT.xn rfl rfl rfl rfl rfl rfl ?_
          refine RunT.ot0 (x := .v (.bool false)) rfl rfl rfl rfl (.pickF rfl rfl) ?_
          refine RunT.ot0 (x := .v (.bool false)) rfl rfl rfl rfl (.moveX rfl) ?_
          refine RunT.xn rfl rfl rfl rfl rfl rfl ?_
          refine RunT.xn rfl rfl rfl rfl rfl rfl ?_
          refine RunT.xn rfl rfl rfl rfl rfl rfl ?_
          refine RunT.xn rfl rfl rfl rfl rfl rfl ?_
          refine RunT.ot0 (x := .v (.bool false)) rfl rfl rfl rfl (.pickF rfl rfl) ?_
          refine RunT.ot0 (x := .v (.bool false)) rfl rfl rfl rfl (.assignX rfl) ?_
          refine RunT.nil ?_
          obtain rfl := si H
          refine T.sub (sub_to (st' := ⟨[(0, .v (.bool false))], [], 8, []⟩) [] (by decide) rfl rfl (⟨⟨_, rfl, .one .v⟩, trivial⟩) (trivial)) ?_
          refine T.ret ?_
          exact RetOk.same [.v (.bool false)] ⟨rfl, trivial⟩ rfl rfl rfl
      · replace H := cf H g11
        refine RunT.xn rfl rfl rfl (bo g11) rfl rfl ?_
        refine RunT.xn rfl rfl rfl (bo g11) rfl rfl ?_
        refine RunT.xn rfl rfl rfl (bo g11) rfl rfl ?_
        refine RunT.ot0 (x := .v (.bool false)) rfl rfl rfl rfl (.pickF (bo g11) rfl) ?_
        refine RunT.ot0 (x := .v (.bool false)) rfl rfl rfl rfl (.moveX rfl) ?_
        refine RunT.xn rfl rfl rfl rfl rfl rfl ?_
        refine RunT.xn rfl rfl rfl rfl rfl rfl ?_
        refine RunT.xn rfl rfl rfl rfl rfl rfl ?_
        refine RunT.xn rfl rfl rfl rfl rfl rfl ?_
        refine RunT.ot0 (x := .v (.bool false)) rfl rfl rfl rfl (.pickF rfl rfl) ?_
        refine RunT.ot0 (x := .v (.bool false)) rfl rfl rfl rfl (.moveX rfl) ?_
        refine RunT.xn rfl rfl rfl rfl rfl rfl ?_
        refine RunT.ot0 (x := .v (.bool false)) rfl rfl rfl rfl (.pickF rfl rfl) ?_
        refine RunT.ot0 (x := .v (.bool false)) rfl rfl rfl rfl (.moveX rfl) ?_
        refine RunT.xn rfl rfl rfl rfl rfl rfl ?_
        refine RunT.xn rfl rfl rfl rfl rfl rfl ?_
        refine RunT.xn rfl rfl rfl rfl rfl rfl ?_
        refine RunT.ot0 (x := .v (.bool false)) rfl rfl rfl rfl (.pickF rfl rfl) ?_
        refine RunT.ot0 (x := .v (.bool false)) rfl rfl rfl rfl (.moveX rfl) ?_
        refine RunT.xn rfl rfl rfl rfl rfl rfl ?_
        refine RunT.xn rfl rfl rfl rfl rfl rfl ?_
        refine RunT.xn rfl rfl rfl rfl rfl rfl ?_
        refine RunT.xn rfl rfl rfl rfl rfl rfl ?_
        refine RunT.ot0 (x := .v (.bool false)) rfl rfl rfl rfl (.pickF rfl rfl) ?_
        refine RunT.ot0 (x := .v (.bool false)) rfl rfl rfl rfl (.moveX rfl) ?_
        refine RunT.xn rfl rfl rfl rfl rfl rfl ?_
        refine RunT.xn rfl rfl rfl rfl rfl rfl ?_
        refine RunT.xn rfl rfl rfl rfl rfl rfl ?_
        refine RunT.xn rfl rfl rfl rfl rfl rfl ?_
        refine RunT.xn rfl rfl rfl rfl rfl rfl ?_
        refine RunT.ot0 (x := .v (.bool false)) rfl rfl rfl rfl (.pickF rfl rfl) ?_
        refine RunT.ot0 (x := .v (.bool false)) rfl rfl rfl rfl (.moveX rfl) ?_
        refine RunT.xn rfl rfl rfl rfl rfl rfl ?_
        refine RunT.xn rfl rfl rfl rfl rfl rfl ?_
        refine RunT.xn rfl rfl rfl rfl rfl rfl ?_
        refine RunT.xn rfl rfl rfl rfl rfl rfl ?_
        refine RunT.xn rfl rfl rfl rfl rfl rfl ?_
        refine RunT.ot0 (x := .v (.bool false)) rfl rfl rfl rfl (.pickF rfl rfl) ?_
        refine RunT.ot0 (x := .v (.bool false)) rfl rfl rfl rfl (.moveX rfl) ?_
        refine RunT.xn rfl rfl rfl rfl rfl rfl ?_
        refine RunT.xn rfl rfl rfl rfl rfl rfl ?_
        refine RunT.xn rfl rfl rfl rfl rfl rfl ?_
        refine RunT.xn rfl rfl rfl rfl rfl rfl ?_
        refine RunT.xn rfl rfl rfl rfl rfl rfl ?_
        refine RunT.ot0 (x := .v (.bool false)) rfl rfl rfl rfl (.pickF rfl rfl) ?_
        refine RunT.ot0 (x := .v (.bool false)) rfl rfl rfl rfl (.moveX rfl) ?_
        refine RunT.xn rfl rfl rfl rfl rfl rfl ?_
        refine RunT.xn rfl rfl rfl rfl rfl rfl ?_
        refine RunT.xn rfl rfl rfl rfl rfl rfl ?_
        refine RunT.xn rfl rfl rfl rfl rfl rfl ?_
        refine RunT.ot0 (x := .v (.bool false)) rfl rfl rfl rfl (.pickF rfl rfl) ?_
        refine RunT.ot0 (x := .v (.bool false)) rfl rfl rfl rfl (.moveX rfl) ?_
        refine RunT.xn rfl rfl rfl rfl rfl rfl ?_
        refine RunT.xn rfl rfl rfl rfl rfl rfl ?_
        refine RunT.xn rfl rfl rfl rfl rfl rfl ?_
        refine RunT.xn rfl rfl rfl rfl rfl rfl ?_
        refine RunT.xn rfl rfl rfl rfl rfl rfl ?_
        refine RunT.ot0 (x := .v (.bool false)) rfl rfl rfl rfl (.pickF rfl rfl) ?_
        refine RunT.ot0 (x := .v (.bool false)) rfl rfl rfl rfl (.moveX rfl) ?_
        refine RunT.xn rfl rfl rfl rfl rfl rfl ?_
        refine RunT.xn rfl rfl rfl rfl rfl rfl ?_
        refine RunT.xn rfl rfl rfl rfl rfl rfl ?_
        refine RunT.xn rfl rfl rfl rfl rfl rfl ?_
        refine RunT.ot0 (x := .v (.bool false)) rfl rfl rfl rfl (.pickF rfl rfl) ?_
        refine RunT.ot0 (x := .v (.bool false)) rfl rfl rfl rfl (.moveX rfl) ?_
        refine RunT.xn rfl rfl rfl rfl rfl rfl ?_
        refine RunT.xn rfl rfl rfl rfl rfl rfl ?_
        refine RunT.xn rfl rfl rfl rfl rfl rfl ?_
        refine RunT.xn rfl rfl rfl rfl rfl rfl ?_
        refine RunT.xn rfl rfl rfl rfl rfl rfl ?_
        refine RunT.ot0 (x := .v (.bool false)) rfl rfl rfl rfl (.pickF rfl rfl) ?_
        refine RunT.ot0 (x := .v (.bool false)) rfl rfl rfl rfl (.moveX rfl) ?_
        refine RunT.xn rfl rfl rfl rfl rfl rfl ?_
        refine RunT.xn rfl rfl rfl rfl rfl rfl ?_
        refine RunT.xn rfl rfl rfl rfl rfl rfl ?_
        refine RunT.xn rfl rfl rfl rfl rfl rfl ?_
        refine RunT.ot0 (x := .v (.bool false)) rfl rfl rfl rfl (.pickF rfl rfl) ?_
        refine RunT.ot0 (x := .v (.bool false)) rfl rfl rfl rfl (.assignX rfl) ?_
        refine RunT.nil ?_
        obtain rfl := si H
        refine T.sub (sub_to (st' := ⟨[(0, .v (.bool false))], [], 8, []⟩) [] (by decide) rfl rfl (⟨⟨_, rfl, .one .v⟩, trivial⟩) (trivial)) ?_
        refine T.ret ?_
        exact RetOk.same [.v (.bool false)] ⟨rfl, trivial⟩ rfl rfl rfl
    · replace H := cf H g8
      refine RunT.xn rfl rfl rfl (bo g8) rfl rfl ?_
      refine RunT.xn rfl rfl rfl (bo g8) rfl rfl ?_
      refine RunT.xn rfl rfl rfl (bo g8) rfl rfl ?_
      refine RunT.xn rfl rfl rfl (bo g8) rfl rfl ?_
      refine RunT.ot0 (x := .v (.bool false)) rfl rfl rfl rfl (.pickF (bo g8) rfl) ?_
      refine RunT.ot0 (x := .v (.bool false)) rfl rfl rfl rfl (.moveX rfl) ?_
      refine RunT.xn rfl rfl rfl rfl rfl rfl ?_
      refine RunT.xn rfl rfl rfl rfl rfl rfl ?_
      refine RunT.xn rfl rfl rfl rfl rfl rfl ?_
      refine RunT.ot0 (x := .v (.bool false)) rfl rfl rfl rfl (.pickF rfl rfl) ?_
      refine RunT.ot0 (x := .v (.bool false)) rfl rfl rfl rfl (.moveX rfl) ?_
      refine RunT.xn rfl rfl rfl rfl rfl rfl ?_
      refine RunT.xn rfl rfl rfl rfl rfl rfl ?_
      refine RunT.xn rfl rfl rfl rfl rfl rfl ?_
      refine RunT.xn rfl rfl rfl rfl rfl rfl ?_
      refine RunT.ot0 (x := .v (.bool false)) rfl rfl rfl rfl (.pickF rfl rfl) ?_
      refine RunT.ot0 (x := .v (.bool false)) rfl rfl rfl rfl (.moveX rfl) ?_
      refine RunT.xn rfl rfl rfl rfl rfl rfl ?_
      refine RunT.ot0 (x := .v (.bool false)) rfl rfl rfl rfl (.pickF rfl rfl) ?_
      refine RunT.ot0 (x := .v (.bool false)) rfl rfl rfl rfl (.moveX rfl) ?_
      refine RunT.xn rfl rfl rfl rfl rfl rfl ?_
      refine RunT.xn rfl rfl rfl rfl rfl rfl ?_
      refine RunT.xn rfl rfl rfl rfl rfl rfl ?_
      refine RunT.ot0 (x := .v (.bool false)) rfl rfl rfl rfl (.pickF rfl rfl) ?_
      refine RunT.ot0 (x := .v (.bool false)) rfl rfl rfl rfl (.moveX rfl) ?_
      refine RunT.xn rfl rfl rfl rfl rfl rfl ?_
      refine RunT.xn rfl rfl rfl rfl rfl rfl ?_
      refine RunT.xn rfl rfl rfl rfl rfl rfl ?_
      refine RunT.xn rfl rfl rfl rfl rfl rfl ?_
      refine RunT.ot0 (x := .v (.bool false)) rfl rfl rfl rfl (.pickF rfl rfl) ?_
      refine RunT.ot0 (x := .v (.bool false)) rfl rfl rfl rfl (.moveX rfl) ?_
      refine RunT.xn rfl rfl rfl rfl rfl rfl ?_
      refine RunT.xn rfl rfl rfl rfl rfl rfl ?_
      refine RunT.xn rfl rfl rfl rfl rfl rfl ?_
      refine RunT.xn rfl rfl rfl rfl rfl rfl ?_
      refine RunT.xn rfl rfl rfl rfl rfl rfl ?_
      refine RunT.ot0 (x := .v (.bool false)) rfl rfl rfl rfl (.pickF rfl rfl) ?_
      refine RunT.ot0 (x := .v (.bool false)) rfl rfl rfl rfl (.moveX rfl) ?_
      refine RunT.xn rfl rfl rfl rfl rfl rfl ?_
      refine RunT.xn rfl rfl rfl rfl rfl rfl ?_
      refine RunT.xn rfl rfl rfl rfl rfl rfl ?_
      refine RunT.xn rfl rfl rfl rfl rfl rfl ?_
      refine RunT.xn rfl rfl rfl rfl rfl rfl ?_
      refine RunT.ot0 (x := .v (.bool false)) rfl rfl rfl rfl (.pickF rfl rfl) ?_
      refine RunT.ot0 (x := .v (.bool false)) rfl rfl rfl rfl (.moveX rfl) ?_
      refine RunT.xn rfl rfl rfl rfl rfl rfl ?_
      refine RunT.xn rfl rfl rfl rfl rfl rfl ?_
      refine RunT.xn rfl rfl rfl rfl rfl rfl ?_
      refine RunT.xn rfl rfl rfl rfl rfl rfl ?_
      refine RunT.xn rfl rfl rfl rfl rfl rfl ?_
      refine RunT.ot0 (x := .v (.bool false)) rfl rfl rfl rfl (.pickF rfl rfl) ?_
      refine RunT.ot0 (x := .v (.bool false)) rfl rfl rfl rfl (.moveX rfl) ?_
      refine RunT.xn rfl rfl rfl rfl rfl rfl ?_
      refine RunT.xn rfl rfl rfl rfl rfl rfl ?_
      refine RunT.xn rfl rfl rfl rfl rfl rfl ?_
      refine RunT.xn rfl rfl rfl rfl rfl rfl ?_
      refine RunT.ot0 (x := .v (.bool false)) rfl rfl rfl rfl (.pickF rfl rfl) ?_
      refine RunT.ot0 (x := .v (.bool false)) rfl rfl rfl rfl (.moveX rfl) ?_
      refine RunT.xn rfl rfl rfl rfl rfl rfl ?_
      refine RunT.xn rfl rfl rfl rfl rfl rfl ?_
      refine RunT.xn rfl rfl rfl rfl rfl rfl ?_
      refine RunT.xn rfl rfl rfl rfl rfl rfl ?_
      refine RunT.xn rfl rfl rfl rfl rfl rfl ?_
      refine RunT.ot0 (x := .v (.bool false)) rfl rfl rfl rfl (.pickF rfl rfl) ?_
      refine RunT.ot0 (x := .v (.bool false)) rfl rfl rfl rfl (.moveX rfl) ?_
      refine RunT.xn rfl rfl rfl rfl rfl rfl ?_
      refine RunT.xn rfl rfl rfl rfl rfl rfl ?_
      refine RunT.xn rfl rfl rfl rfl rfl rfl ?_
      refine RunT.xn rfl rfl rfl rfl rfl rfl ?_
      refine RunT.ot0 (x := .v (.bool false)) rfl rfl rfl rfl (.pickF rfl rfl) ?_
      refine RunT.ot0 (x := .v (.bool false)) rfl rfl rfl rfl (.moveX rfl) ?_
      refine RunT.xn rfl rfl rfl rfl rfl rfl ?_
      refine RunT.xn rfl rfl rfl rfl rfl rfl ?_
      refine RunT.xn rfl rfl rfl rfl rfl rfl ?_
      refine RunT.xn rfl rfl rfl rfl rfl rfl ?_
      refine RunT.xn rfl rfl rfl rfl rfl rfl ?_
      refine RunT.ot0 (x := .v (.bool false)) rfl rfl rfl rfl (.pickF rfl rfl) ?_
      refine RunT.ot0 (x := .v (.bool false)) rfl rfl rfl rfl (.moveX rfl) ?_
      refine RunT.xn rfl rfl rfl rfl rfl rfl ?_
      refine RunT.xn rfl rfl rfl rfl rfl rfl ?_
      refine RunT.xn rfl rfl rfl rfl rfl rfl ?_
      refine RunT.xn rfl rfl rfl rfl rfl rfl ?_
      refine RunT.ot0 (x := .v (.bool false)) rfl rfl rfl rfl (.pickF rfl rfl) ?_
      refine RunT.ot0 (x := .v (.bool false)) rfl rfl rfl rfl (.assignX rfl) ?_
      refine RunT.nil ?_
      obtain rfl := si H
      refine T.sub (sub_to (st' := ⟨[(0, .v (.bool false))], [], 8, []⟩) [] (by decide) rfl rfl (⟨⟨_, rfl, .one .v⟩, trivial⟩) (trivial)) ?_
      refine T.ret ?_
      exact RetOk.same [.v (.bool false)] ⟨rfl, trivial⟩ rfl rfl rfl
  · replace H := cf H g5
    refine RunT.xn rfl rfl rfl (bo g5) rfl rfl ?_
    refine RunT.xn rfl rfl rfl (bo g5) rfl rfl ?_
    refine RunT.xn rfl rfl rfl (bo g5) rfl rfl ?_
    refine RunT.xn rfl rfl rfl (bo g5) rfl rfl ?_
    refine RunT.ot0 (x := .v (.bool false)) rfl rfl rfl rfl (.pickF (bo g5) rfl) ?_
    refine RunT.ot0 (x := .v (.bool false)) rfl rfl rfl rfl (.moveX rfl) ?_
    refine RunT.xn rfl rfl rfl rfl rfl rfl ?_
    refine RunT.xn rfl rfl rfl rfl rfl rfl ?_
    refine RunT.xn rfl rfl rfl rfl rfl rfl ?_
    refine RunT.xn rfl rfl rfl rfl rfl rfl ?_
    refine RunT.ot0 (x := .v (.bool false)) rfl rfl rfl rfl (.pickF rfl rfl) ?_
    refine RunT.ot0 (x := .v (.bool false)) rfl rfl rfl rfl (.moveX rfl) ?_
    refine RunT.xn rfl rfl rfl rfl rfl rfl ?_
    refine RunT.xn rfl rfl rfl rfl rfl rfl ?_
    refine RunT.xn rfl rfl rfl rfl rfl rfl ?_
    refine RunT.ot0 (x := .v (.bool false)) rfl rfl rfl rfl (.pickF rfl rfl) ?_
    refine RunT.ot0 (x := .v (.bool false)) rfl rfl rfl rfl (.moveX rfl) ?_
    refine RunT.xn rfl rfl rfl rfl rfl rfl ?_
    refine RunT.xn rfl rfl rfl rfl rfl rfl ?_
    refine RunT.xn rfl rfl rfl rfl rfl rfl ?_
    refine RunT.xn rfl rfl rfl rfl rfl rfl ?_
    refine RunT.ot0 (x := .v (.bool false)) rfl rfl rfl rfl (.pickF rfl rfl) ?_
    refine RunT.ot0 (x := .v (.bool false)) rfl rfl rfl rfl (.moveX rfl) ?_
    refine RunT.xn rfl rfl rfl rfl rfl rfl ?_
    refine RunT.ot0 (x := .v (.bool false)) rfl rfl rfl rfl (.pickF rfl rfl) ?_
    refine RunT.ot0 (x := .v (.bool false)) rfl rfl rfl rfl (.moveX rfl) ?_
    refine RunT.xn rfl rfl rfl rfl rfl rfl ?_
    refine RunT.xn rfl rfl rfl rfl rfl rfl ?_
    refine RunT.xn rfl rfl rfl rfl rfl rfl ?_
    refine RunT.ot0 (x := .v (.bool false)) rfl rfl rfl rfl (.pickF rfl rfl) ?_
    refine RunT.ot0 (x := .v (.bool false)) rfl rfl rfl rfl (.moveX rfl) ?_
    refine RunT.xn rfl rfl rfl rfl rfl rfl ?_
    refine RunT.xn rfl rfl rfl rfl rfl rfl ?_
    refine RunT.xn rfl rfl rfl rfl rfl rfl ?_
    refine RunT.xn rfl rfl rfl rfl rfl rfl ?_
    refine RunT.ot0 (x := .v (.bool false)) rfl rfl rfl rfl (.pickF rfl rfl) ?_
    refine RunT.ot0 (x := .v (.bool false)) rfl rfl rfl rfl (.moveX rfl) ?_
    refine RunT.xn rfl rfl rfl rfl rfl rfl ?_
    refine RunT.xn rfl rfl rfl rfl rfl rfl ?_
    refine RunT.xn rfl rfl rfl rfl rfl rfl ?_
    refine RunT.xn rfl rfl rfl rfl rfl rfl ?_
    refine RunT.xn rfl rfl rfl rfl rfl rfl ?_
    refine RunT.ot0 (x := .v (.bool false)) rfl rfl rfl rfl (.pickF rfl rfl) ?_
    refine RunT.ot0 (x := .v (.bool false)) rfl rfl rfl rfl (.moveX rfl) ?_
    refine RunT.xn rfl rfl rfl rfl rfl rfl ?_
    refine RunT.xn rfl rfl rfl rfl rfl rfl ?_
    refine RunT.xn rfl rfl rfl rfl rfl rfl ?_
    refine RunT.xn rfl rfl rfl rfl rfl rfl ?_
    refine RunT.xn rfl rfl rfl rfl rfl rfl ?_
    refine RunT.ot0 (x := .v (.bool false)) rfl rfl rfl rfl (.pickF rfl rfl) ?_
    refine RunT.ot0 (x := .v (.bool false)) rfl rfl rfl rfl (.moveX rfl) ?_
    refine RunT.xn rfl rfl rfl rfl rfl rfl ?_
    refine RunT.xn rfl rfl rfl rfl rfl rfl ?_
    refine RunT.xn rfl rfl rfl rfl rfl rfl ?_
    refine RunT.xn rfl rfl rfl rfl rfl rfl ?_
    refine RunT.xn rfl rfl rfl rfl rfl rfl ?_
    refine RunT.ot0 (x := .v (.bool false)) rfl rfl rfl rfl (.pickF rfl rfl) ?_
    refine RunT.ot0 (x := .v (.bool false)) rfl rfl rfl rfl (.moveX rfl) ?_
    refine RunT.xn rfl rfl rfl rfl rfl rfl ?_
    refine RunT.xn rfl rfl rfl rfl rfl rfl ?_
    refine RunT.xn rfl rfl rfl rfl rfl rfl ?_
    refine RunT.xn rfl rfl rfl rfl rfl rfl ?_
    refine RunT.ot0 (x := .v (.bool false)) rfl rfl rfl rfl (.pickF rfl rfl) ?_
    refine RunT.ot0 (x := .v (.bool false)) rfl rfl rfl rfl (.moveX rfl) ?_
    refine RunT.xn rfl rfl rfl rfl rfl rfl ?_
    refine RunT.xn rfl rfl rfl rfl rfl rfl ?_
    refine RunT.xn rfl rfl rfl rfl rfl rfl ?_
    refine RunT.xn rfl rfl rfl rfl rfl rfl ?_
    refine RunT.xn rfl rfl rfl rfl rfl rfl ?_
    refine RunT.ot0 (x := .v (.bool false)) rfl rfl rfl rfl (.pickF rfl rfl) ?_
    refine RunT.ot0 (x := .v (.bool false)) rfl rfl rfl rfl (.moveX rfl) ?_
    refine RunT.xn rfl rfl rfl rfl rfl rfl ?_
    refine RunT.xn rfl rfl rfl rfl rfl rfl ?_
    refine RunT.xn rfl rfl rfl rfl rfl rfl ?_
    refine RunT.xn rfl rfl rfl rfl rfl rfl ?_
    refine RunT.ot0 (x := .v (.bool false)) rfl rfl rfl rfl (.pickF rfl rfl) ?_
    refine RunT.ot0 (x := .v (.bool false)) rfl rfl rfl rfl (.moveX rfl) ?_
    refine RunT.xn rfl rfl rfl rfl rfl rfl ?_
    refine RunT.xn rfl rfl rfl rfl rfl rfl ?_
    refine RunT.xn rfl rfl rfl rfl rfl rfl ?_
    refine RunT.xn rfl rfl rfl rfl rfl rfl ?_
    refine RunT.xn rfl rfl rfl rfl rfl rfl ?_
    refine RunT.ot0 (x := .v (.bool false)) rfl rfl rfl rfl (.pickF rfl rfl) ?_
    refine RunT.ot0 (x := .v (.bool false)) rfl rfl rfl rfl (.moveX rfl) ?_
    refine RunT.xn rfl rfl rfl rfl rfl rfl ?_
    refine RunT.xn rfl rfl rfl rfl rfl rfl ?_
    refine RunT.xn rfl rfl rfl rfl rfl rfl ?_
    refine RunT.xn rfl rfl rfl rfl rfl rfl ?_
    refine RunT.ot0 (x := .v (.bool false)) rfl rfl rfl rfl (.pickF rfl rfl) ?_
    refine RunT.ot0 (x := .v (.bool false)) rfl rfl rfl rfl (.assignX rfl) ?_
    refine RunT.nil ?_
    obtain rfl := si H
    refine T.sub (sub_to (st' := ⟨[(0, .v (.bool false))], [], 8, []⟩) [] (by decide) rfl rfl (⟨⟨_, rfl, .one .v⟩, trivial⟩) (trivial)) ?_
    refine T.ret ?_
    exact RetOk.same [.v (.bool false)] ⟨rfl, trivial⟩ rfl rfl rfl
end Go.Proofs.Ytlfpkjlaajfjnaa
