/- The Go functions come to just what their plain forms come to: one contract each. -/
import Derived.Test.YtlfpkjlaajfjnaaYKillAsks1
set_option linter.unusedVariables false
set_option linter.unusedSimpArgs false
set_option maxRecDepth 100000
namespace Go.Proofs.Ytlfpkjlaajfjnaa
open Go Go.Sh Go.Px
attribute [local irreducible] Go.Sh.T Go.Sh.RunT Go.Sh.RunD
set_option maxHeartbeats 4000000 in
theorem law8_KillAsks_pc (al : Bool) (k : Nat) (a0 : Venue) (a1 : Int) (o : Bool) (H : law8_KillAsks k a0 a1 = some o) : PC Try.prog al 11 [.agg [.lst (List.map eSeat a0.Seats), .v (.int .i64 a0.Gap), .v (.int .i64 a0.Radius), .lst (List.map eI a0.Kills), .lst (List.map ePole a0.Poles)], .v (.int .i64 a1)] (.v (.bool o)) := by
  unfold law8_KillAsks at H
  refine PC.of_T Try.func11 rfl rfl (n := 80) rfl rfl (.inr rfl) ?_
  intro base B w0
  refine T.st (st' := ⟨[(0, .agg [.lst (List.map eSeat a0.Seats), .v (.int .i64 a0.Gap), .v (.int .i64 a0.Radius), .lst (List.map eI a0.Kills), .lst (List.map ePole a0.Poles)]), (1, .v (.int .i64 a1))], [], 0, []⟩) rfl ?_
  refine T.seq ?_
  refine T.region ?_
  refine RunT.ot1 (x := .ptr 0 0) (p0 := (0, some (.box [.lst (List.map eSeat a0.Seats), .v (.int .i64 a0.Gap), .v (.int .i64 a0.Radius), .lst (List.map eI a0.Kills), .lst (List.map ePole a0.Poles)]))) (n' := 8) rfl rfl rfl rfl (.boxX rfl rfl rfl) rfl ?_
  refine RunT.ot0 (x := .v (.bool false)) rfl rfl rfl rfl (.assignX rfl) ?_
  refine RunT.nil ?_
  refine T.seq ?_
  refine T.seq ?_
  refine T.region ?_
  refine RunT.ot0 (x := .agg [.lst (List.map eSeat a0.Seats), .v (.int .i64 a0.Gap), .v (.int .i64 a0.Radius), .lst (List.map eI a0.Kills), .lst (List.map ePole a0.Poles)]) rfl rfl rfl rfl (.loadP ty26 rfl rfl rfl) ?_
  obtain ⟨r1, h2, H⟩ := bs H
  refine RunT.ot0 (x := .v (.bool r1)) rfl rfl rfl rfl (.callp (law3_Few_pc false k a0 r1 h2) rfl ⟨(.agg' ⟨.lst, .v, .v, .lst, .lst, trivial⟩), trivial⟩ rfl rfl rfl) ?_
  refine RunT.ot0 (x := .v (.bool (!r1))) rfl rfl rfl rfl (.un rfl (fun w => u_not w) rfl) ?_
  refine RunT.nil ?_
  refine T.cond2 (t := !r1) rfl (fun c3 => ?_) (fun c3 => ?_)
  · replace H := ct H c3
    refine T.seq ?_
    refine T.region ?_
    obtain ⟨r4, h5, H⟩ := bs H
    refine RunT.ot0 (x := .v (.bool r4)) rfl rfl rfl rfl (.callp (law8_told_pc false k  r4 h5) rfl trivial rfl rfl rfl) ?_
    refine RunT.ot0 (x := .v (.bool r4)) rfl rfl rfl rfl (.assignX rfl) ?_
    refine RunT.nil ?_
    obtain rfl := si H
    refine T.sub (sub_to (st' := ⟨[(4, .v (.bool r4))], [], 8, []⟩) [] (by decide) rfl rfl (⟨⟨_, rfl, .one .v⟩, trivial⟩) (trivial)) ?_
    refine T.ret ?_
    exact RetOk.same [.v (.bool r4)] ⟨rfl, trivial⟩ rfl rfl rfl
  · replace H := cf H c3
    refine T.skip ?_
    refine T.seq ?_
    refine T.region ?_
    refine RunT.ot0 (x := .agg [.lst (List.map eSeat a0.Seats), .v (.int .i64 a0.Gap), .v (.int .i64 a0.Radius), .lst (List.map eI a0.Kills), .lst (List.map ePole a0.Poles)]) rfl rfl rfl rfl (.loadP ty26 rfl rfl rfl) ?_
    obtain ⟨r6, h7, H⟩ := bs H
    refine RunT.ot0 (x := .lst (List.map eB r6)) rfl rfl rfl rfl (.callp (PC.frozen (ref6_Usable_pc false k a0 r6 h7)) rfl ⟨(.agg' ⟨.lst, .v, .v, .lst, .lst, trivial⟩), trivial⟩ rfl rfl rfl) ?_
    refine RunT.ot0 (x := .lst (List.map eB r6)) rfl rfl rfl rfl (.assignX rfl) ?_
    refine RunT.nil ?_
    refine T.seq ?_
    refine T.region ?_
    refine RunT.ot0 (x := .v (.slice none 0 0)) rfl rfl rfl rfl (.assignX rfl) ?_
    refine RunT.nil ?_
    refine T.seq ?_
    refine T.seq ?_
    refine T.region ?_
    refine RunT.ot0 (x := .v (.int .i64 0)) rfl rfl rfl rfl (.assignX rfl) ?_
    refine RunT.nil ?_
    obtain ⟨o20, E21, HO22⟩ := bs H
    refine T.cutE (⟨[(1, .v (.int .i64 a1)), (2, .ptr 0 0), (5, .lst (List.map eB r6)), (6, .own 1 0 o20.length)], [(0, some (.box [.lst (List.map eSeat a0.Seats), .v (.int .i64 a0.Gap), .v (.int .i64 a0.Radius), .lst (List.map eI a0.Kills), .lst (List.map ePole a0.Poles)])), (1, some (.arr false 1 (List.map eI o20)))], 8, []⟩) ?_ ?_
    · have H := E21
      refine T.block ?_
      refine T.loopS (fun n s => ∃ (v23 : (List Int)) (v24 : Int), law8_KillAsks_l0 k r6 n v23 v24 = some o20 ∧ s = ⟨[(1, .v (.int .i64 a1)), (2, .ptr 0 0), (5, .lst (List.map eB r6)), (6, .own 1 0 v23.length), (7, .v (.int .i64 v24))], [(0, some (.box [.lst (List.map eSeat a0.Seats), .v (.int .i64 a0.Gap), .v (.int .i64 a0.Radius), .lst (List.map eI a0.Kills), .lst (List.map ePole a0.Poles)])), (1, some (.arr false 1 (List.map eI v23)))], 8, []⟩) k ⟨_, ⟨[], 0, H, rfl⟩, sub_to [some 0, none] (by decide) rfl rfl (⟨⟨_, rfl, .one .v⟩, ⟨⟨_, rfl, .one (.ptr rfl)⟩, ⟨⟨_, rfl, .one .lst⟩, ⟨⟨_, rfl, .one .nilO⟩, ⟨⟨_, rfl, .one .v⟩, trivial⟩⟩⟩⟩⟩) (⟨⟨rfl, .inl ⟨_, _, rfl, rfl, .box ⟨.lst, .v, .v, .lst, .lst, trivial⟩⟩⟩, ⟨⟨rfl, .inr ⟨rfl, false, _, rfl, (by decide)⟩⟩, trivial⟩⟩)⟩ ?_
      rintro n s ⟨v23, v24, H, rfl⟩
      rcases n with _ | n
      · cases (show none = some _ from H)
      rw [law8_KillAsks_l0] at H
      refine T.seq ?_
      refine T.seq ?_
      refine T.region ?_
      refine RunT.ot0 (x := .v (.int .i64 v24)) rfl rfl rfl rfl (.moveX rfl) ?_
      refine RunT.ot0 (x := .lst (List.map eB r6)) rfl rfl rfl rfl (.moveX rfl) ?_
      refine RunT.ot0 (x := .v (.int .i64 (r6.length : Int))) rfl rfl rfl rfl (.lenLm Try.underlying43 rfl rfl) ?_
      refine RunT.ot0 (x := .v (.bool (decide (v24 < (r6.length : Int))))) rfl rfl rfl rfl (.bin rfl rfl (fun w => b_lss w) rfl) ?_
      refine RunT.nil ?_
      refine T.cond2 (t := decide (v24 < (r6.length : Int))) rfl (fun c25 => ?_) (fun c25 => ?_)
      · replace H := ct H c25
        refine T.skip ?_
        refine T.seq ?_
        refine T.block ?_
        refine T.seq ?_
        refine T.region ?_
        refine RunT.ot0 (x := .lst (List.map eB r6)) rfl rfl rfl rfl (.moveX rfl) ?_
        refine RunT.ot0 (x := .v (.int .i64 v24)) rfl rfl rfl rfl (.moveX rfl) ?_
        obtain ⟨y26, h27, H⟩ := bs H
        refine RunT.ot0 (x := .rptr [.v (.bool y26)]) rfl rfl rfl rfl (.idxLX h27 enc_B sl43 rfl rfl rfl) ?_
        refine RunT.ot0 (x := .v (.bool y26)) rfl rfl rfl rfl (.loadR ty4 rfl rfl) ?_
        refine RunT.ot0 (x := .v (.bool (!y26))) rfl rfl rfl rfl (.un rfl (fun w => u_not w) rfl) ?_
        refine RunT.nil ?_
        refine T.cond2 (t := !y26) rfl (fun c28 => ?_) (fun c28 => ?_)
        · replace H := ct H c28
          refine T.region ?_
          refine RunT.ot0 (x := .own 1 0 v23.length) rfl rfl rfl rfl (.moveX rfl) ?_
          refine RunT.ot0 (x := .v (.int .i64 v24)) rfl rfl rfl rfl (.moveX rfl) ?_
          refine RunT.ot1 (x := .own 8 0 (([v24]).length)) (p0 := (8, some (.arr false 1 (List.map eI [v24])))) (n' := 16) rfl rfl rfl rfl (.bslicem (d := false) (l := [v24]) (f := eI) sl23 rfl rfl rfl enc_I rfl) rfl ?_
          obtain ⟨h29, H⟩ := gs H
          refine RunT.ot2 (x := .own 16 0 ((v23 ++ [v24]).length)) (p0 := (16, some (.arr false 1 (List.map eI (v23 ++ [v24]))))) (p1 := (1, none)) (n' := 24) rfl rfl rfl rfl (.appOn (d := false) (l := v23) (m := [v24]) (f := eI) rfl sl23 rfl rfl rfl (.ownn Try.underlying23 rfl rfl (fun h => by cases h)) rfl h29) rfl ?_
          refine RunT.ot0 (x := .own 16 0 ((v23 ++ [v24]).length)) rfl rfl rfl rfl (.assignX rfl) ?_
          refine RunT.nil ?_
          refine T.sub (sub_pick [1, 2, 5, 6, 7] [0, 16] (st' := ⟨[(1, .v (.int .i64 a1)), (2, .ptr 0 0), (5, .lst (List.map eB r6)), (6, .own 16 0 ((v23 ++ [v24]).length)), (7, .v (.int .i64 v24))], [(0, some (.box [.lst (List.map eSeat a0.Seats), .v (.int .i64 a0.Gap), .v (.int .i64 a0.Radius), .lst (List.map eI a0.Kills), .lst (List.map ePole a0.Poles)])), (16, some (.arr false 1 (List.map eI (v23 ++ [v24]))))], 24, []⟩) rfl rfl rfl rfl rfl) ?_
          refine T.region ?_
          refine RunT.ot0 (x := .v (.int .i64 v24)) rfl rfl rfl rfl (.moveX rfl) ?_
          refine RunT.ot0 (x := .v (.int .i64 (wr (v24 + 1)))) rfl rfl rfl rfl (.bin rfl rfl (fun w => b_addw w) rfl) ?_
          refine RunT.ot0 (x := .v (.int .i64 (wr (v24 + 1)))) rfl rfl rfl rfl (.assignX rfl) ?_
          refine RunT.nil ?_
          exact ⟨n, Nat.lt_succ_self n, _, ⟨v23 ++ [v24], wr (v24 + 1), H, rfl⟩, (sub_to [some 0, some 16] (by decide) rfl rfl (⟨⟨_, rfl, .one .v⟩, ⟨⟨_, rfl, .one (.ptr rfl)⟩, ⟨⟨_, rfl, .one .lst⟩, ⟨⟨_, rfl, .one (.own rfl)⟩, ⟨⟨_, rfl, .one .v⟩, trivial⟩⟩⟩⟩⟩) (⟨⟨rfl, .inl ⟨_, _, rfl, rfl, .box ⟨.lst, .v, .v, .lst, .lst, trivial⟩⟩⟩, ⟨⟨rfl, .inl ⟨_, _, rfl, rfl, .arr rfl⟩⟩, trivial⟩⟩))⟩
        · replace H := cf H c28
          refine T.skip ?_
          refine T.region ?_
          refine RunT.ot0 (x := .v (.int .i64 v24)) rfl rfl rfl rfl (.moveX rfl) ?_
          refine RunT.ot0 (x := .v (.int .i64 (wr (v24 + 1)))) rfl rfl rfl rfl (.bin rfl rfl (fun w => b_addw w) rfl) ?_
          refine RunT.ot0 (x := .v (.int .i64 (wr (v24 + 1)))) rfl rfl rfl rfl (.assignX rfl) ?_
          refine RunT.nil ?_
          exact ⟨n, Nat.lt_succ_self n, _, ⟨v23, wr (v24 + 1), H, rfl⟩, (sub_to [some 0, some 1] (by decide) rfl rfl (⟨⟨_, rfl, .one .v⟩, ⟨⟨_, rfl, .one (.ptr rfl)⟩, ⟨⟨_, rfl, .one .lst⟩, ⟨⟨_, rfl, .one (.own rfl)⟩, ⟨⟨_, rfl, .one .v⟩, trivial⟩⟩⟩⟩⟩) (⟨⟨rfl, .inl ⟨_, _, rfl, rfl, .box ⟨.lst, .v, .v, .lst, .lst, trivial⟩⟩⟩, ⟨⟨rfl, .inl ⟨_, _, rfl, rfl, .arr rfl⟩⟩, trivial⟩⟩))⟩
      · replace H := cf H c25
        refine T.exit ?_
        obtain rfl := si H
        exact (sub_to [some 0, some 1] (by decide) rfl rfl (⟨⟨_, rfl, .one .v⟩, ⟨⟨_, rfl, .one (.ptr rfl)⟩, ⟨⟨_, rfl, .one .lst⟩, ⟨⟨_, rfl, .one (.own rfl)⟩, trivial⟩⟩⟩⟩) (⟨⟨rfl, .inl ⟨_, _, rfl, rfl, .box ⟨.lst, .v, .v, .lst, .lst, trivial⟩⟩⟩, ⟨⟨rfl, .inl ⟨_, _, rfl, rfl, .arr rfl⟩⟩, trivial⟩⟩))
    · intro s hS
      have H := HO22
      refine T.sub hS ?_
      refine T.seq ?_
      refine T.draw (wr := []) mixed rfl rfl ?_ rfl
      obtain ⟨r59, h60, H⟩ := bs H
      refine RunD.ot0 (x := .v (.bool r59)) rfl rfl rfl rfl (.callp (law8_told_pc false k  r59 h60) rfl trivial rfl rfl rfl) rfl ?_
      refine RunD.ot0 (x := .v (.bool r59)) rfl rfl rfl rfl (.moveX rfl) rfl ?_
      refine RunD.cases (t := 30) (c := r59) rfl (fun g61 => ?_) (fun g61 => ?_)
      · replace H := ct H g61
        refine RunD.gt0 (x := .agg [.lst (List.map eSeat a0.Seats), .v (.int .i64 a0.Gap), .v (.int .i64 a0.Radius), .lst (List.map eI a0.Kills), .lst (List.map ePole a0.Poles)]) rfl rfl rfl (bo g61) rfl rfl (.loadP ty26 rfl rfl rfl) rfl ?_
        obtain ⟨r62, h63, H⟩ := bs H
        refine RunD.gt0 (x := .lst (List.map eB r62)) rfl rfl rfl (bo g61) rfl rfl (.callp (PC.frozen (kill_Usable_pc false k a0 r62 h63)) rfl ⟨(.agg' ⟨.lst, .v, .v, .lst, .lst, trivial⟩), trivial⟩ rfl rfl rfl) rfl ?_
        refine RunD.gt0 (x := .lst (List.map eB r6)) rfl rfl rfl (bo g61) rfl rfl (.moveX rfl) rfl ?_
        obtain ⟨r64, h65, H⟩ := bs H
        refine RunD.gt0 (x := .v (.bool r64)) rfl rfl rfl (bo g61) rfl rfl (.callp (law8_bools_pc false k r62 r6 r64 h65) rfl ⟨(.one .lst), (.one .lst), trivial⟩ rfl rfl rfl) rfl ?_
        refine RunD.ot0 (x := .v (.bool r64)) rfl rfl rfl rfl (.pickT (bo g61) rfl) rfl ?_
        refine RunD.ot0 (x := .v (.bool r64)) rfl rfl rfl rfl (.moveX rfl) rfl ?_
        refine RunD.cases (t := 36) (c := r64) rfl (fun g66 => ?_) (fun g66 => ?_)
        · replace H := ct H g66
          refine RunD.gt0 (x := .agg [.lst (List.map eSeat a0.Seats), .v (.int .i64 a0.Gap), .v (.int .i64 a0.Radius), .lst (List.map eI a0.Kills), .lst (List.map ePole a0.Poles)]) rfl rfl rfl (bo g66) rfl rfl (.loadP ty26 rfl rfl rfl) rfl ?_
          obtain ⟨r67, h68, H⟩ := bs H
          refine RunD.gt0 (x := .lst (List.map eI r67)) rfl rfl rfl (bo g66) rfl rfl (.callp (PC.frozen (kill_Killed_pc false k a0 r67 h68)) rfl ⟨(.agg' ⟨.lst, .v, .v, .lst, .lst, trivial⟩), trivial⟩ rfl rfl rfl) rfl ?_
          refine RunD.gt0 (x := .own 1 0 o20.length) rfl rfl rfl (bo g66) rfl rfl (.moveX rfl) rfl ?_
          obtain ⟨r69, h70, H⟩ := bs H
          refine RunD.gt0 (x := .v (.bool r69)) rfl rfl rfl (bo g66) rfl rfl (.callp (ref6_SameInts_pc false k r67 o20 r69 h70) rfl ⟨(.one .lst), (.one (.all rfl (List.length_map _).symm)), trivial⟩ rfl rfl rfl) rfl ?_
          refine RunD.ot0 (x := .v (.bool r69)) rfl rfl rfl rfl (.pickT (bo g66) rfl) rfl ?_
          refine RunD.ot0 (x := .v (.bool r69)) rfl rfl rfl rfl (.moveX rfl) rfl ?_
          refine RunD.cases (t := 42) (c := r69) rfl (fun g71 => ?_) (fun g71 => ?_)
          · replace H := ct H g71
            refine RunD.gt0 (x := .agg [.lst (List.map eSeat a0.Seats), .v (.int .i64 a0.Gap), .v (.int .i64 a0.Radius), .lst (List.map eI a0.Kills), .lst (List.map ePole a0.Poles)]) rfl rfl rfl (bo g71) rfl rfl (.loadP ty26 rfl rfl rfl) rfl ?_
            refine RunD.gt0 (x := .v (.int .i64 a1)) rfl rfl rfl (bo g71) rfl rfl (.moveX rfl) rfl ?_
            obtain ⟨r72, h73, H⟩ := bs H
            refine RunD.gt0 (x := .lst (List.map eI r72)) rfl rfl rfl (bo g71) rfl rfl (.callp (PC.frozen (kill_By_pc false k a0 a1 r72 h73)) rfl ⟨(.agg' ⟨.lst, .v, .v, .lst, .lst, trivial⟩), (.one .v), trivial⟩ rfl rfl rfl) rfl ?_
            refine RunD.gt0 (x := .agg [.lst (List.map eSeat a0.Seats), .v (.int .i64 a0.Gap), .v (.int .i64 a0.Radius), .lst (List.map eI a0.Kills), .lst (List.map ePole a0.Poles)]) rfl rfl rfl (bo g71) rfl rfl (.loadP ty26 rfl rfl rfl) rfl ?_
            refine RunD.gt0 (x := .v (.int .i64 a1)) rfl rfl rfl (bo g71) rfl rfl (.moveX rfl) rfl ?_
            obtain ⟨r74, h75, H⟩ := bs H
            refine RunD.gt0 (x := .lst (List.map eI r74)) rfl rfl rfl (bo g71) rfl rfl (.callp (PC.frozen (ref6_By_pc false k a0 a1 r74 h75)) rfl ⟨(.agg' ⟨.lst, .v, .v, .lst, .lst, trivial⟩), (.one .v), trivial⟩ rfl rfl rfl) rfl ?_
            obtain ⟨r76, h77, H⟩ := bs H
            refine RunD.gt0 (x := .v (.bool r76)) rfl rfl rfl (bo g71) rfl rfl (.callp (ref6_SameInts_pc false k r72 r74 r76 h77) rfl ⟨(.one .lst), (.one .lst), trivial⟩ rfl rfl rfl) rfl ?_
            refine RunD.ot0 (x := .v (.bool r76)) rfl rfl rfl rfl (.pickT (bo g71) rfl) rfl ?_
            refine RunD.ot0 (x := .v (.bool r76)) rfl rfl rfl rfl (.moveX rfl) rfl ?_
            refine RunD.cases (t := 51) (c := r76) rfl (fun g78 => ?_) (fun g78 => ?_)
            · replace H := ct H g78
              refine RunD.gt0 (x := .ptr 0 0) rfl rfl rfl (bo g78) rfl rfl (.fieldPX fl26_0 rfl rfl) rfl ?_
              refine RunD.gt0 (x := .lst (List.map eSeat a0.Seats)) rfl rfl rfl (bo g78) rfl rfl (.loadP ty22 rfl rfl rfl) rfl ?_
              refine RunD.gt0 (x := .v (.int .i64 (a0.Seats.length : Int))) rfl rfl rfl (bo g78) rfl rfl (.lenLm Try.underlying22 rfl rfl) rfl ?_
              refine RunD.gt0 (x := .v (.bool (decide ((a0.Seats.length : Int) = 0)))) rfl rfl rfl (bo g78) rfl rfl (.bin rfl rfl (fun w => b_eql w) rfl) rfl ?_
              refine RunD.gt0 (x := .v (.bool (decide ((a0.Seats.length : Int) = 0)))) rfl rfl rfl (bo g78) rfl rfl (.moveX rfl) rfl ?_
              refine RunD.cases (t := 56) (c := decide ((a0.Seats.length : Int) = 0)) rfl (fun g79 => ?_) (fun g79 => ?_)
              · replace H := ct H g79
                refine RunD.xn rfl rfl rfl (bo g79) rfl rfl ?_
                refine RunD.xn rfl rfl rfl (bo g79) rfl rfl ?_
                refine RunD.xn rfl rfl rfl (bo g79) rfl rfl ?_
                refine RunD.xn rfl rfl rfl (bo g79) rfl rfl ?_
                refine RunD.xn rfl rfl rfl (bo g79) rfl rfl ?_
                refine RunD.xn rfl rfl rfl (bo g79) rfl rfl ?_
                refine RunD.xn rfl rfl rfl (bo g79) rfl rfl ?_
                refine RunD.xn rfl rfl rfl (bo g79) rfl rfl ?_
                refine RunD.xn rfl rfl rfl (bo g79) rfl rfl ?_
                refine RunD.xn rfl rfl rfl (bo g79) rfl rfl ?_
                refine RunD.xn rfl rfl rfl (bo g79) rfl rfl ?_
                refine RunD.xn rfl rfl rfl (bo g79) rfl rfl ?_
                refine RunD.xn rfl rfl rfl (bo g79) rfl rfl ?_
                refine RunD.xn rfl rfl rfl (bo g79) rfl rfl ?_
                refine RunD.xn rfl rfl rfl (bo g79) rfl rfl ?_
                refine RunD.xn rfl rfl rfl (bo g79) rfl rfl ?_
                refine RunD.xn rfl rfl rfl (bo g79) rfl rfl ?_
                refine RunD.xn rfl rfl rfl (bo g79) rfl rfl ?_
                refine RunD.xn rfl rfl rfl (bo g79) rfl rfl ?_
                refine RunD.xn rfl rfl rfl (bo g79) rfl rfl ?_
                refine RunD.xn rfl rfl rfl (bo g79) rfl rfl ?_
                refine RunD.gt0 (x := .v (.bool true)) rfl rfl rfl (bo g78) rfl rfl (.pickT (bo g79) rfl) rfl ?_
                refine RunD.ot0 (x := .v (.bool true)) rfl rfl rfl rfl (.pickT (bo g78) rfl) rfl ?_
                refine RunD.ot0 (x := .v (.bool true)) rfl rfl rfl rfl (.assignX rfl) rfl ?_
                refine RunD.nil (by kernel_rfl) ⟨rfl, rfl, ?_⟩
                obtain rfl := si H
                refine T.sub (sub_to (st' := ⟨[(4, .v (.bool true))], [], 8, []⟩) [] (by decide) rfl rfl (⟨⟨_, rfl, .one .v⟩, trivial⟩) (trivial)) ?_
                refine T.ret ?_
                exact RetOk.same [.v (.bool true)] ⟨rfl, trivial⟩ rfl rfl rfl
              · replace H := cf H g79
                refine RunD.gt0 (x := .agg [.lst (List.map eSeat a0.Seats), .v (.int .i64 a0.Gap), .v (.int .i64 a0.Radius), .lst (List.map eI a0.Kills), .lst (List.map ePole a0.Poles)]) rfl rfl rfl (bo g79) rfl rfl (.loadP ty26 rfl rfl rfl) rfl ?_
                refine RunD.gt0 (x := .v (.int .i64 a1)) rfl rfl rfl (bo g79) rfl rfl (.moveX rfl) rfl ?_
                refine RunD.gt0 (x := .v (.int .u64 (IntKind.u64.wrap a1))) rfl rfl rfl (bo g79) rfl rfl (.conv rfl (fun w => c_int w ⟨_, Try.underlying3⟩ Try.underlying41) rfl) rfl ?_
                refine RunD.gt0 (x := .ptr 0 0) rfl rfl rfl (bo g79) rfl rfl (.fieldPX fl26_0 rfl rfl) rfl ?_
                refine RunD.gt0 (x := .lst (List.map eSeat a0.Seats)) rfl rfl rfl (bo g79) rfl rfl (.loadP ty22 rfl rfl rfl) rfl ?_
                refine RunD.gt0 (x := .v (.int .i64 (a0.Seats.length : Int))) rfl rfl rfl (bo g79) rfl rfl (.lenLm Try.underlying22 rfl rfl) rfl ?_
                refine RunD.gt0 (x := .v (.int .u64 (IntKind.u64.wrap (a0.Seats.length : Int)))) rfl rfl rfl (bo g79) rfl rfl (.conv rfl (fun w => c_int w ⟨_, Try.underlying3⟩ Try.underlying41) rfl) rfl ?_
                obtain ⟨h80, H⟩ := gs H
                refine RunD.gt0 (x := .v (.int .u64 ((IntKind.u64.wrap a1).tmod (IntKind.u64.wrap (a0.Seats.length : Int))))) rfl rfl rfl (bo g79) rfl rfl (.bin rfl rfl (fun w => b_rem w (of_decide_eq_true h80)) rfl) rfl ?_
                refine RunD.gt0 (x := .v (.int .i64 (wr ((IntKind.u64.wrap a1).tmod (IntKind.u64.wrap (a0.Seats.length : Int)))))) rfl rfl rfl (bo g79) rfl rfl (.conv rfl (fun w => c_intw w ⟨_, Try.underlying41⟩ Try.underlying3) rfl) rfl ?_
                obtain ⟨r81, h82, H⟩ := bs H
                refine RunD.gt0 (x := .lst (List.map eI r81)) rfl rfl rfl (bo g79) rfl rfl (.callp (PC.frozen (kill_By_pc false k a0 (wr ((IntKind.u64.wrap a1).tmod (IntKind.u64.wrap (a0.Seats.length : Int)))) r81 h82)) rfl ⟨(.agg' ⟨.lst, .v, .v, .lst, .lst, trivial⟩), (.one .v), trivial⟩ rfl rfl rfl) rfl ?_
                refine RunD.gt0 (x := .agg [.lst (List.map eSeat a0.Seats), .v (.int .i64 a0.Gap), .v (.int .i64 a0.Radius), .lst (List.map eI a0.Kills), .lst (List.map ePole a0.Poles)]) rfl rfl rfl (bo g79) rfl rfl (.loadP ty26 rfl rfl rfl) rfl ?_
                refine RunD.gt0 (x := .v (.int .i64 a1)) rfl rfl rfl (bo g79) rfl rfl (.moveX rfl) rfl ?_
                refine RunD.gt0 (x := .v (.int .u64 (IntKind.u64.wrap a1))) rfl rfl rfl (bo g79) rfl rfl (.conv rfl (fun w => c_int w ⟨_, Try.underlying3⟩ Try.underlying41) rfl) rfl ?_
                refine RunD.gt0 (x := .ptr 0 0) rfl rfl rfl (bo g79) rfl rfl (.fieldPX fl26_0 rfl rfl) rfl ?_
                refine RunD.gt0 (x := .lst (List.map eSeat a0.Seats)) rfl rfl rfl (bo g79) rfl rfl (.loadP ty22 rfl rfl rfl) rfl ?_
                refine RunD.gt0 (x := .v (.int .i64 (a0.Seats.length : Int))) rfl rfl rfl (bo g79) rfl rfl (.lenLm Try.underlying22 rfl rfl) rfl ?_
                refine RunD.gt0 (x := .v (.int .u64 (IntKind.u64.wrap (a0.Seats.length : Int)))) rfl rfl rfl (bo g79) rfl rfl (.conv rfl (fun w => c_int w ⟨_, Try.underlying3⟩ Try.underlying41) rfl) rfl ?_
                obtain ⟨h83, H⟩ := gs H
                refine RunD.gt0 (x := .v (.int .u64 ((IntKind.u64.wrap a1).tmod (IntKind.u64.wrap (a0.Seats.length : Int))))) rfl rfl rfl (bo g79) rfl rfl (.bin rfl rfl (fun w => b_rem w (of_decide_eq_true h83)) rfl) rfl ?_
                refine RunD.gt0 (x := .v (.int .i64 (wr ((IntKind.u64.wrap a1).tmod (IntKind.u64.wrap (a0.Seats.length : Int)))))) rfl rfl rfl (bo g79) rfl rfl (.conv rfl (fun w => c_intw w ⟨_, Try.underlying41⟩ Try.underlying3) rfl) rfl ?_
                obtain ⟨r84, h85, H⟩ := bs H
                refine RunD.gt0 (x := .lst (List.map eI r84)) rfl rfl rfl (bo g79) rfl rfl (.callp (PC.frozen (ref6_By_pc false k a0 (wr ((IntKind.u64.wrap a1).tmod (IntKind.u64.wrap (a0.Seats.length : Int)))) r84 h85)) rfl ⟨(.agg' ⟨.lst, .v, .v, .lst, .lst, trivial⟩), (.one .v), trivial⟩ rfl rfl rfl) rfl ?_
                obtain ⟨r86, h87, H⟩ := bs H
                refine RunD.gt0 (x := .v (.bool r86)) rfl rfl rfl (bo g79) rfl rfl (.callp (ref6_SameInts_pc false k r81 r84 r86 h87) rfl ⟨(.one .lst), (.one .lst), trivial⟩ rfl rfl rfl) rfl ?_
                refine RunD.gt0 (x := .v (.bool r86)) rfl rfl rfl (bo g78) rfl rfl (.pickF (bo g79) rfl) rfl ?_
                refine RunD.ot0 (x := .v (.bool r86)) rfl rfl rfl rfl (.pickT (bo g78) rfl) rfl ?_
                refine RunD.ot0 (x := .v (.bool r86)) rfl rfl rfl rfl (.assignX rfl) rfl ?_
                refine RunD.nil (by kernel_rfl) ⟨rfl, rfl, ?_⟩
                obtain rfl := si H
                refine T.sub (sub_to (st' := ⟨[(4, .v (.bool r86))], [], 8, []⟩) [] (by decide) rfl rfl (⟨⟨_, rfl, .one .v⟩, trivial⟩) (trivial)) ?_
                refine T.ret ?_
                exact RetOk.same [.v (.bool r86)] ⟨rfl, trivial⟩ rfl rfl rfl
            · replace H := cf H g78
              refine RunD.xn rfl rfl rfl (bo g78) rfl rfl ?_
              refine RunD.xn rfl rfl rfl (bo g78) rfl rfl ?_
              refine RunD.xn rfl rfl rfl (bo g78) rfl rfl ?_
              refine RunD.xn rfl rfl rfl (bo g78) rfl rfl ?_
              refine RunD.xn rfl rfl rfl (bo g78) rfl rfl ?_
              refine RunD.xu rfl rfl rfl rfl rfl rfl ?_
              refine RunD.xu rfl rfl rfl rfl rfl rfl ?_
              refine RunD.xu rfl rfl rfl rfl rfl rfl ?_
              refine RunD.xu rfl rfl rfl rfl rfl rfl ?_
              refine RunD.xu rfl rfl rfl rfl rfl rfl ?_
              refine RunD.xu rfl rfl rfl rfl rfl rfl ?_
              refine RunD.xu rfl rfl rfl rfl rfl rfl ?_
              refine RunD.xu rfl rfl rfl rfl rfl rfl ?_
              refine RunD.xu rfl rfl rfl rfl rfl rfl ?_
              refine RunD.xu rfl rfl rfl rfl rfl rfl ?_
              refine RunD.xu rfl rfl rfl rfl rfl rfl ?_
              refine RunD.xu rfl rfl rfl rfl rfl rfl ?_
              refine RunD.xu rfl rfl rfl rfl rfl rfl ?_
              refine RunD.xu rfl rfl rfl rfl rfl rfl ?_
              refine RunD.xu rfl rfl rfl rfl rfl rfl ?_
              refine RunD.xu rfl rfl rfl rfl rfl rfl ?_
              refine RunD.xu rfl rfl rfl rfl rfl rfl ?_
              refine RunD.xu rfl rfl rfl rfl rfl rfl ?_
              refine RunD.xu rfl rfl rfl rfl rfl rfl ?_
              refine RunD.xu rfl rfl rfl rfl rfl rfl ?_
              refine RunD.xu rfl rfl rfl rfl rfl rfl ?_
              refine RunD.xn rfl rfl rfl (bo g78) rfl rfl ?_
              refine RunD.ot0 (x := .v (.bool false)) rfl rfl rfl rfl (.pickF (bo g78) rfl) rfl ?_
              refine RunD.ot0 (x := .v (.bool false)) rfl rfl rfl rfl (.assignX rfl) rfl ?_
              refine RunD.nil (by kernel_rfl) ⟨rfl, rfl, ?_⟩
              obtain rfl := si H
              refine T.sub (sub_to (st' := ⟨[(4, .v (.bool false))], [], 8, []⟩) [] (by decide) rfl rfl (⟨⟨_, rfl, .one .v⟩, trivial⟩) (trivial)) ?_
              refine T.ret ?_
              exact RetOk.same [.v (.bool false)] ⟨rfl, trivial⟩ rfl rfl rfl
          · replace H := cf H g71
            refine RunD.xn rfl rfl rfl (bo g71) rfl rfl ?_
            refine RunD.xn rfl rfl rfl (bo g71) rfl rfl ?_
            refine RunD.xn rfl rfl rfl (bo g71) rfl rfl ?_
            refine RunD.xn rfl rfl rfl (bo g71) rfl rfl ?_
            refine RunD.xn rfl rfl rfl (bo g71) rfl rfl ?_
            refine RunD.xn rfl rfl rfl (bo g71) rfl rfl ?_
            refine RunD.xn rfl rfl rfl (bo g71) rfl rfl ?_
            refine RunD.ot0 (x := .v (.bool false)) rfl rfl rfl rfl (.pickF (bo g71) rfl) rfl ?_
            refine RunD.ot0 (x := .v (.bool false)) rfl rfl rfl rfl (.moveX rfl) rfl ?_
            refine RunD.xn rfl rfl rfl rfl rfl rfl ?_
            refine RunD.xn rfl rfl rfl rfl rfl rfl ?_
            refine RunD.xn rfl rfl rfl rfl rfl rfl ?_
            refine RunD.xn rfl rfl rfl rfl rfl rfl ?_
            refine RunD.xn rfl rfl rfl rfl rfl rfl ?_
            refine RunD.xu rfl rfl rfl rfl rfl rfl ?_
            refine RunD.xu rfl rfl rfl rfl rfl rfl ?_
            refine RunD.xu rfl rfl rfl rfl rfl rfl ?_
            refine RunD.xu rfl rfl rfl rfl rfl rfl ?_
            refine RunD.xu rfl rfl rfl rfl rfl rfl ?_
            refine RunD.xu rfl rfl rfl rfl rfl rfl ?_
            refine RunD.xu rfl rfl rfl rfl rfl rfl ?_
            refine RunD.xu rfl rfl rfl rfl rfl rfl ?_
            refine RunD.xu rfl rfl rfl rfl rfl rfl ?_
            refine RunD.xu rfl rfl rfl rfl rfl rfl ?_
            refine RunD.xu rfl rfl rfl rfl rfl rfl ?_
            refine RunD.xu rfl rfl rfl rfl rfl rfl ?_
            refine RunD.xu rfl rfl rfl rfl rfl rfl ?_
            refine RunD.xu rfl rfl rfl rfl rfl rfl ?_
            refine RunD.xu rfl rfl rfl rfl rfl rfl ?_
            refine RunD.xu rfl rfl rfl rfl rfl rfl ?_
            refine RunD.xu rfl rfl rfl rfl rfl rfl ?_
            refine RunD.xu rfl rfl rfl rfl rfl rfl ?_
            refine RunD.xu rfl rfl rfl rfl rfl rfl ?_
            refine RunD.xu rfl rfl rfl rfl rfl rfl ?_
            refine RunD.xu rfl rfl rfl rfl rfl rfl ?_
            refine RunD.xn rfl rfl rfl rfl rfl rfl ?_
            refine RunD.ot0 (x := .v (.bool false)) rfl rfl rfl rfl (.pickF rfl rfl) rfl ?_
            refine RunD.ot0 (x := .v (.bool false)) rfl rfl rfl rfl (.assignX rfl) rfl ?_
            refine RunD.nil (by kernel_rfl) ⟨rfl, rfl, ?_⟩
            obtain rfl := si H
            refine T.sub (sub_to (st' := ⟨[(4, .v (.bool false))], [], 8, []⟩) [] (by decide) rfl rfl (⟨⟨_, rfl, .one .v⟩, trivial⟩) (trivial)) ?_
            refine T.ret ?_
            exact RetOk.same [.v (.bool false)] ⟨rfl, trivial⟩ rfl rfl rfl
        · replace H := cf H g66
          refine RunD.xn rfl rfl rfl (bo g66) rfl rfl ?_
          refine RunD.xn rfl rfl rfl (bo g66) rfl rfl ?_
          refine RunD.xn rfl rfl rfl (bo g66) rfl rfl ?_
          refine RunD.xn rfl rfl rfl (bo g66) rfl rfl ?_
          refine RunD.ot0 (x := .v (.bool false)) rfl rfl rfl rfl (.pickF (bo g66) rfl) rfl ?_
          refine RunD.ot0 (x := .v (.bool false)) rfl rfl rfl rfl (.moveX rfl) rfl ?_
          refine RunD.xn rfl rfl rfl rfl rfl rfl ?_
          refine RunD.xn rfl rfl rfl rfl rfl rfl ?_
          refine RunD.xn rfl rfl rfl rfl rfl rfl ?_
          refine RunD.xn rfl rfl rfl rfl rfl rfl ?_
          refine RunD.xn rfl rfl rfl rfl rfl rfl ?_
          refine RunD.xn rfl rfl rfl rfl rfl rfl ?_
          refine RunD.xn rfl rfl rfl rfl rfl rfl ?_
          refine RunD.ot0 (x := .v (.bool false)) rfl rfl rfl rfl (.pickF rfl rfl) rfl ?_
          refine RunD.ot0 (x := .v (.bool false)) rfl rfl rfl rfl (.moveX rfl) rfl ?_
          refine RunD.xn rfl rfl rfl rfl rfl rfl ?_
          refine RunD.xn rfl rfl rfl rfl rfl rfl ?_
          refine RunD.xn rfl rfl rfl rfl rfl rfl ?_
          refine RunD.xn rfl rfl rfl rfl rfl rfl ?_
          refine RunD.xn rfl rfl rfl rfl rfl rfl ?_
          refine RunD.xu rfl rfl rfl rfl rfl rfl ?_
          refine RunD.xu rfl rfl rfl rfl rfl rfl ?_
          refine RunD.xu rfl rfl rfl rfl rfl rfl ?_
          refine RunD.xu rfl rfl rfl rfl rfl rfl ?_
          refine RunD.xu rfl rfl rfl rfl rfl rfl ?_
          refine RunD.xu rfl rfl rfl rfl rfl rfl ?_
          refine RunD.xu rfl rfl rfl rfl rfl rfl ?_
          refine RunD.xu rfl rfl rfl rfl rfl rfl ?_
          refine RunD.xu rfl rfl rfl rfl rfl rfl ?_
          refine RunD.xu rfl rfl rfl rfl rfl rfl ?_
          refine RunD.xu rfl rfl rfl rfl rfl rfl ?_
          refine RunD.xu rfl rfl rfl rfl rfl rfl ?_
          refine RunD.xu rfl rfl rfl rfl rfl rfl ?_
          refine RunD.xu rfl rfl rfl rfl rfl rfl ?_
          refine RunD.xu rfl rfl rfl rfl rfl rfl ?_
          refine RunD.xu rfl rfl rfl rfl rfl rfl ?_
          refine RunD.xu rfl rfl rfl rfl rfl rfl ?_
          refine RunD.xu rfl rfl rfl rfl rfl rfl ?_
          refine RunD.xu rfl rfl rfl rfl rfl rfl ?_
          refine RunD.xu rfl rfl rfl rfl rfl rfl ?_
          refine RunD.xu rfl rfl rfl rfl rfl rfl ?_
          refine RunD.xn rfl rfl rfl rfl rfl rfl ?_
          refine RunD.ot0 (x := .v (.bool false)) rfl rfl rfl rfl (.pickF rfl rfl) rfl ?_
          refine RunD.ot0 (x := .v (.bool false)) rfl rfl rfl rfl (.assignX rfl) rfl ?_
          refine RunD.nil (by kernel_rfl) ⟨rfl, rfl, ?_⟩
          obtain rfl := si H
          refine T.sub (sub_to (st' := ⟨[(4, .v (.bool false))], [], 8, []⟩) [] (by decide) rfl rfl (⟨⟨_, rfl, .one .v⟩, trivial⟩) (trivial)) ?_
          refine T.ret ?_
          exact RetOk.same [.v (.bool false)] ⟨rfl, trivial⟩ rfl rfl rfl
      · replace H := cf H g61
        refine RunD.xn rfl rfl rfl (bo g61) rfl rfl ?_
        refine RunD.xn rfl rfl rfl (bo g61) rfl rfl ?_
        refine RunD.xn rfl rfl rfl (bo g61) rfl rfl ?_
        refine RunD.xn rfl rfl rfl (bo g61) rfl rfl ?_
        refine RunD.ot0 (x := .v (.bool false)) rfl rfl rfl rfl (.pickF (bo g61) rfl) rfl ?_
        refine RunD.ot0 (x := .v (.bool false)) rfl rfl rfl rfl (.moveX rfl) rfl ?_
        refine RunD.xn rfl rfl rfl rfl rfl rfl ?_
        refine RunD.xn rfl rfl rfl rfl rfl rfl ?_
        refine RunD.xn rfl rfl rfl rfl rfl rfl ?_
        refine RunD.xn rfl rfl rfl rfl rfl rfl ?_
        refine RunD.ot0 (x := .v (.bool false)) rfl rfl rfl rfl (.pickF rfl rfl) rfl ?_
        refine RunD.ot0 (x := .v (.bool false)) rfl rfl rfl rfl (.moveX rfl) rfl ?_
        refine RunD.xn rfl rfl rfl rfl rfl rfl ?_
        refine RunD.xn rfl rfl rfl rfl rfl rfl ?_
        refine RunD.xn rfl rfl rfl rfl rfl rfl ?_
        refine RunD.xn rfl rfl rfl rfl rfl rfl ?_
        refine RunD.xn rfl rfl rfl rfl rfl rfl ?_
        refine RunD.xn rfl rfl rfl rfl rfl rfl ?_
        refine RunD.xn rfl rfl rfl rfl rfl rfl ?_
        refine RunD.ot0 (x := .v (.bool false)) rfl rfl rfl rfl (.pickF rfl rfl) rfl ?_
        refine RunD.ot0 (x := .v (.bool false)) rfl rfl rfl rfl (.moveX rfl) rfl ?_
        refine RunD.xn rfl rfl rfl rfl rfl rfl ?_
        refine RunD.xn rfl rfl rfl rfl rfl rfl ?_
        refine RunD.xn rfl rfl rfl rfl rfl rfl ?_
        refine RunD.xn rfl rfl rfl rfl rfl rfl ?_
        refine RunD.xn rfl rfl rfl rfl rfl rfl ?_
        refine RunD.xu rfl rfl rfl rfl rfl rfl ?_
        refine RunD.xu rfl rfl rfl rfl rfl rfl ?_
        refine RunD.xu rfl rfl rfl rfl rfl rfl ?_
        refine RunD.xu rfl rfl rfl rfl rfl rfl ?_
        refine RunD.xu rfl rfl rfl rfl rfl rfl ?_
        refine RunD.xu rfl rfl rfl rfl rfl rfl ?_
        refine RunD.xu rfl rfl rfl rfl rfl rfl ?_
        refine RunD.xu rfl rfl rfl rfl rfl rfl ?_
        refine RunD.xu rfl rfl rfl rfl rfl rfl ?_
        refine RunD.xu rfl rfl rfl rfl rfl rfl ?_
        refine RunD.xu rfl rfl rfl rfl rfl rfl ?_
        refine RunD.xu rfl rfl rfl rfl rfl rfl ?_
        refine RunD.xu rfl rfl rfl rfl rfl rfl ?_
        refine RunD.xu rfl rfl rfl rfl rfl rfl ?_
        refine RunD.xu rfl rfl rfl rfl rfl rfl ?_
        refine RunD.xu rfl rfl rfl rfl rfl rfl ?_
        refine RunD.xu rfl rfl rfl rfl rfl rfl ?_
        refine RunD.xu rfl rfl rfl rfl rfl rfl ?_
        refine RunD.xu rfl rfl rfl rfl rfl rfl ?_
        refine RunD.xu rfl rfl rfl rfl rfl rfl ?_
        refine RunD.xu rfl rfl rfl rfl rfl rfl ?_
        refine RunD.xn rfl rfl rfl rfl rfl rfl ?_
        refine RunD.ot0 (x := .v (.bool false)) rfl rfl rfl rfl (.pickF rfl rfl) rfl ?_
        refine RunD.ot0 (x := .v (.bool false)) rfl rfl rfl rfl (.assignX rfl) rfl ?_
        refine RunD.nil (by kernel_rfl) ⟨rfl, rfl, ?_⟩
        obtain rfl := si H
        refine T.sub (sub_to (st' := ⟨[(4, .v (.bool false))], [], 8, []⟩) [] (by decide) rfl rfl (⟨⟨_, rfl, .one .v⟩, trivial⟩) (trivial)) ?_
        refine T.ret ?_
        exact RetOk.same [.v (.bool false)] ⟨rfl, trivial⟩ rfl rfl rfl
end Go.Proofs.Ytlfpkjlaajfjnaa
