/- The Go functions come to just what their plain forms come to: one contract each. -/
import Derived.Test.YtlfpkjlaajfjnaaYKillParts0
set_option linter.unusedVariables false
set_option linter.unusedSimpArgs false
set_option maxRecDepth 100000
namespace Go.Proofs.Ytlfpkjlaajfjnaa
open Go Go.Sh Go.Px
attribute [local irreducible] Go.Sh.T Go.Sh.RunT Go.Sh.RunD
set_option maxHeartbeats 4000000 in
theorem kill_Killed_pc (al : Bool) (k : Nat) (a0 : Venue) (o : (List Int)) (H : kill_Killed k a0 = some o) : PC Try.prog al 55 [.agg [.lst (List.map eSeat a0.Seats), .v (.int .i64 a0.Gap), .v (.int .i64 a0.Radius), .lst (List.map eI a0.Kills), .lst (List.map ePole a0.Poles)]] (.frs 1 (List.map eI o)) := by
  unfold kill_Killed at H
  refine PC.of_T Try.func55 rfl rfl (n := 22) rfl rfl (.inr (flat1_frs (sz := 1) fl_I)) ?_
  intro base B w0
  refine T.st (st' := ⟨[(0, .agg [.lst (List.map eSeat a0.Seats), .v (.int .i64 a0.Gap), .v (.int .i64 a0.Radius), .lst (List.map eI a0.Kills), .lst (List.map ePole a0.Poles)])], [], 0, []⟩) rfl ?_
  refine T.seq ?_
  refine T.region ?_
  refine RunT.ot1 (x := .ptr 0 0) (p0 := (0, some (.box [.lst (List.map eSeat a0.Seats), .v (.int .i64 a0.Gap), .v (.int .i64 a0.Radius), .lst (List.map eI a0.Kills), .lst (List.map ePole a0.Poles)]))) (n' := 8) rfl rfl rfl rfl (.boxX rfl rfl rfl) rfl ?_
  refine RunT.ot0 (x := .v (.slice none 0 0)) rfl rfl rfl rfl (.assignX rfl) ?_
  refine RunT.nil ?_
  refine T.seq ?_
  refine T.region ?_
  refine RunT.ot0 (x := .v (.slice none 0 0)) rfl rfl rfl rfl (.assignX rfl) ?_
  refine RunT.nil ?_
  refine T.seq ?_
  refine T.seq ?_
  refine T.region ?_
  refine RunT.ot0 (x := .agg [.lst (List.map eSeat a0.Seats), .v (.int .i64 a0.Gap), .v (.int .i64 a0.Radius), .lst (List.map eI a0.Kills), .lst (List.map ePole a0.Poles)]) rfl rfl rfl rfl (.loadP ty26 rfl rfl rfl) ?_
  obtain ⟨r1, h2, H⟩ := bs H
  refine RunT.ot0 (x := .lst (List.map eB r1)) rfl rfl rfl rfl (.callp (PC.frozen (kill_Usable_pc false k a0 r1 h2)) rfl ⟨(.agg' ⟨.lst, .v, .v, .lst, .lst, trivial⟩), trivial⟩ rfl rfl rfl) ?_
  refine RunT.ot0 (x := .v (.int .i64 (r1.length : Int))) rfl rfl rfl rfl (.lenLm Try.underlying43 rfl rfl) ?_
  refine RunT.ot0 (x := .v (.int .i64 0)) rfl rfl rfl rfl (.moveX rfl) ?_
  refine RunT.nil ?_
  obtain ⟨o15, E16, HO17⟩ := bs H
  refine T.cutE (⟨[(3, .own 0 0 o15.length)], [(0, some (.arr false 1 (List.map eI o15)))], 8, []⟩) ?_ ?_
  · have H := E16
    refine T.block ?_
    refine T.loopS (fun n s => ∃ (v18 : (List Int)) (v19 : Int), kill_Killed_l0 k r1 n v18 v19 = some o15 ∧ s = ⟨[(3, .own 0 0 v18.length), (7, .lst (List.map eB r1)), (8, .v (.int .i64 (r1.length : Int))), (9, .v (.int .i64 v19))], [(0, some (.arr false 1 (List.map eI v18)))], 8, []⟩) k ⟨_, ⟨[], 0, H, rfl⟩, sub_to [none] (by decide) rfl rfl (⟨⟨_, rfl, .one .nilO⟩, ⟨⟨_, rfl, .one .lst⟩, ⟨⟨_, rfl, .one .v⟩, ⟨⟨_, rfl, .one .v⟩, trivial⟩⟩⟩⟩) (⟨⟨rfl, .inr ⟨rfl, false, _, rfl, (by decide)⟩⟩, trivial⟩)⟩ ?_
    rintro n s ⟨v18, v19, H, rfl⟩
    rcases n with _ | n
    · cases (show none = some _ from H)
    rw [kill_Killed_l0] at H
    refine T.seq ?_
    refine T.region ?_
    refine RunT.ot0 (x := .v (.bool (decide (v19 < (r1.length : Int))))) rfl rfl rfl rfl (.bin rfl rfl (fun w => b_lss w) rfl) ?_
    refine RunT.nil ?_
    refine T.seq ?_
    refine T.cond2 (t := decide (v19 < (r1.length : Int))) rfl (fun c20 => ?_) (fun c20 => ?_)
    · replace H := ct H c20
      refine T.skip ?_
      refine T.seq ?_
      refine T.block ?_
      refine T.seq ?_
      refine T.region ?_
      refine RunT.ot0 (x := .v (.int .i64 v19)) rfl rfl rfl rfl (.moveX rfl) ?_
      obtain ⟨y21, h22, H⟩ := bs H
      refine RunT.ot0 (x := .rptr [.v (.bool y21)]) rfl rfl rfl rfl (.idxLX h22 enc_B sl43 rfl rfl rfl) ?_
      refine RunT.ot0 (x := .v (.bool y21)) rfl rfl rfl rfl (.loadR ty4 rfl rfl) ?_
      refine RunT.ot0 (x := .v (.int .i64 v19)) rfl rfl rfl rfl (.assignX rfl) ?_
      refine RunT.ot0 (x := .v (.bool y21)) rfl rfl rfl rfl (.assignX rfl) ?_
      refine RunT.nil ?_
      refine T.seq ?_
      refine T.region ?_
      refine RunT.ot0 (x := .v (.bool y21)) rfl rfl rfl rfl (.moveX rfl) ?_
      refine RunT.ot0 (x := .v (.bool (!y21))) rfl rfl rfl rfl (.un rfl (fun w => u_not w) rfl) ?_
      refine RunT.nil ?_
      refine T.cond2 (t := !y21) rfl (fun c23 => ?_) (fun c23 => ?_)
      · replace H := ct H c23
        refine T.region ?_
        refine RunT.ot0 (x := .own 0 0 v18.length) rfl rfl rfl rfl (.moveX rfl) ?_
        refine RunT.ot0 (x := .v (.int .i64 v19)) rfl rfl rfl rfl (.moveX rfl) ?_
        refine RunT.ot1 (x := .own 8 0 (([v19]).length)) (p0 := (8, some (.arr false 1 (List.map eI [v19])))) (n' := 16) rfl rfl rfl rfl (.bslicem (d := false) (l := [v19]) (f := eI) sl23 rfl rfl rfl enc_I rfl) rfl ?_
        obtain ⟨h24, H⟩ := gs H
        refine RunT.ot2 (x := .own 16 0 ((v18 ++ [v19]).length)) (p0 := (16, some (.arr false 1 (List.map eI (v18 ++ [v19]))))) (p1 := (0, none)) (n' := 24) rfl rfl rfl rfl (.appOn (d := false) (l := v18) (m := [v19]) (f := eI) rfl sl23 rfl rfl rfl (.ownn Try.underlying23 rfl rfl (fun h => by cases h)) rfl h24) rfl ?_
        refine RunT.ot0 (x := .own 16 0 ((v18 ++ [v19]).length)) rfl rfl rfl rfl (.assignX rfl) ?_
        refine RunT.nil ?_
        refine T.sub (sub_pick [3, 7, 8, 9] [16] (st' := ⟨[(3, .own 16 0 ((v18 ++ [v19]).length)), (7, .lst (List.map eB r1)), (8, .v (.int .i64 (r1.length : Int))), (9, .v (.int .i64 v19))], [(16, some (.arr false 1 (List.map eI (v18 ++ [v19]))))], 24, []⟩) rfl rfl rfl rfl rfl) ?_
        refine T.region ?_
        refine RunT.ot0 (x := .v (.int .i64 (wr (v19 + 1)))) rfl rfl rfl rfl (.bin rfl rfl (fun w => b_addw w) rfl) ?_
        refine RunT.ot0 (x := .v (.int .i64 (wr (v19 + 1)))) rfl rfl rfl rfl (.moveX rfl) ?_
        refine RunT.nil ?_
        exact ⟨n, Nat.lt_succ_self n, _, ⟨v18 ++ [v19], wr (v19 + 1), H, rfl⟩, (sub_to [some 16] (by decide) rfl rfl (⟨⟨_, rfl, .one (.own rfl)⟩, ⟨⟨_, rfl, .one .lst⟩, ⟨⟨_, rfl, .one .v⟩, ⟨⟨_, rfl, .one .v⟩, trivial⟩⟩⟩⟩) (⟨⟨rfl, .inl ⟨_, _, rfl, rfl, .arr rfl⟩⟩, trivial⟩))⟩
      · replace H := cf H c23
        refine T.skip ?_
        refine T.region ?_
        refine RunT.ot0 (x := .v (.int .i64 (wr (v19 + 1)))) rfl rfl rfl rfl (.bin rfl rfl (fun w => b_addw w) rfl) ?_
        refine RunT.ot0 (x := .v (.int .i64 (wr (v19 + 1)))) rfl rfl rfl rfl (.moveX rfl) ?_
        refine RunT.nil ?_
        exact ⟨n, Nat.lt_succ_self n, _, ⟨v18, wr (v19 + 1), H, rfl⟩, (sub_to [some 0] (by decide) rfl rfl (⟨⟨_, rfl, .one (.own rfl)⟩, ⟨⟨_, rfl, .one .lst⟩, ⟨⟨_, rfl, .one .v⟩, ⟨⟨_, rfl, .one .v⟩, trivial⟩⟩⟩⟩) (⟨⟨rfl, .inl ⟨_, _, rfl, rfl, .arr rfl⟩⟩, trivial⟩))⟩
    · replace H := cf H c20
      refine T.exit ?_
      obtain rfl := si H
      exact (sub_to [some 0] (by decide) rfl rfl (⟨⟨_, rfl, .one (.own rfl)⟩, trivial⟩) (⟨⟨rfl, .inl ⟨_, _, rfl, rfl, .arr rfl⟩⟩, trivial⟩))
  · intro s hS
    have H := HO17
    refine T.sub hS ?_
    refine T.seq ?_
    refine T.region ?_
    refine RunT.ot0 (x := .own 0 0 o15.length) rfl rfl rfl rfl (.moveX rfl) ?_
    refine RunT.ot0 (x := .own 0 0 o15.length) rfl rfl rfl rfl (.assignX rfl) ?_
    refine RunT.nil ?_
    obtain rfl := si H
    refine T.sub (sub_to (st' := ⟨[(2, .own 0 0 ((List.map eI o15).length))], [(0, some (.arr false 1 (List.map eI o15)))], 8, []⟩) [some 0] (by decide) rfl rfl (⟨⟨_, rfl, .one (.own' rfl (List.length_map _).symm)⟩, trivial⟩) (⟨⟨rfl, .inl ⟨_, _, rfl, rfl, .arr rfl⟩⟩, trivial⟩)) ?_
    refine T.ret ?_
    exact RetOk.same [.own 0 0 ((List.map eI o15).length)] ⟨rfl, trivial⟩ rfl rfl rfl
set_option maxHeartbeats 4000000 in
theorem kill_By_pc (al : Bool) (k : Nat) (a0 : Venue) (a1 : Int) (o : (List Int)) (H : kill_By k a0 a1 = some o) : PC Try.prog al 56 [.agg [.lst (List.map eSeat a0.Seats), .v (.int .i64 a0.Gap), .v (.int .i64 a0.Radius), .lst (List.map eI a0.Kills), .lst (List.map ePole a0.Poles)], .v (.int .i64 a1)] (.frs 1 (List.map eI o)) := by
  unfold kill_By at H
  refine PC.of_T Try.func56 rfl rfl (n := 21) rfl rfl (.inr (flat1_frs (sz := 1) fl_I)) ?_
  intro base B w0
  refine T.st (st' := ⟨[(0, .agg [.lst (List.map eSeat a0.Seats), .v (.int .i64 a0.Gap), .v (.int .i64 a0.Radius), .lst (List.map eI a0.Kills), .lst (List.map ePole a0.Poles)]), (1, .v (.int .i64 a1))], [], 0, []⟩) rfl ?_
  refine T.seq ?_
  refine T.region ?_
  refine RunT.ot1 (x := .ptr 0 0) (p0 := (0, some (.box [.lst (List.map eSeat a0.Seats), .v (.int .i64 a0.Gap), .v (.int .i64 a0.Radius), .lst (List.map eI a0.Kills), .lst (List.map ePole a0.Poles)]))) (n' := 8) rfl rfl rfl rfl (.boxX rfl rfl rfl) rfl ?_
  refine RunT.ot0 (x := .v (.slice none 0 0)) rfl rfl rfl rfl (.assignX rfl) ?_
  refine RunT.nil ?_
  obtain ⟨o6, E7, HO8⟩ := bs H
  refine T.cutP (fun v9 => o6 = .go v9) (fun v9 => ⟨[(1, .v (.int .i64 a1)), (2, .ptr 0 0)], [(0, some (.box [.lst (List.map eSeat a0.Seats), .v (.int .i64 a0.Gap), .v (.int .i64 a0.Radius), .lst (List.map eI a0.Kills), .lst (List.map ePole a0.Poles)]))], 8, []⟩) ?_ ?_
  · have H := E7
    refine T.block ?_
    refine T.seq ?_
    refine T.block ?_
    refine T.seq ?_
    refine T.block ?_
    refine T.block ?_
    refine T.seq ?_
    refine T.seq ?_
    refine T.seq ?_
    refine T.region ?_
    refine RunT.ot0 (x := .v (.int .i64 a1)) rfl rfl rfl rfl (.moveX rfl) ?_
    refine RunT.ot0 (x := .v (.bool (decide (a1 < 0)))) rfl rfl rfl rfl (.bin rfl rfl (fun w => b_lss w) rfl) ?_
    refine RunT.ot0 (x := .v (.bool (decide (a1 < 0)))) rfl rfl rfl rfl (.assignX rfl) ?_
    refine RunT.nil ?_
    refine T.cond2 (t := decide (a1 < 0)) rfl (fun c10 => ?_) (fun c10 => ?_)
    · replace H := ct H c10
      refine T.exit ?_
      refine T.seq ?_
      refine T.seq ?_
      refine T.region ?_
      refine RunT.ot0 (x := .v (.slice none 0 0)) rfl rfl rfl rfl (.assignX rfl) ?_
      refine RunT.nil ?_
      obtain rfl := si H
      have HX := exr HO8
      obtain rfl := si HX
      refine T.sub (sub_to (st' := ⟨[(4, .own 0 0 0)], [(0, some (.arr false 1 (List.map eI [])))], 8, []⟩) [none] (by decide) rfl rfl (⟨⟨_, rfl, .one .nilO⟩, trivial⟩) (⟨⟨rfl, .inr ⟨rfl, false, _, rfl, (by decide)⟩⟩, trivial⟩)) ?_
      refine T.ret ?_
      exact RetOk.same [.own 0 0 0] ⟨rfl, trivial⟩ rfl rfl rfl
    · replace H := cf H c10
      refine T.skip ?_
      refine T.seq ?_
      refine T.seq ?_
      refine T.region ?_
      refine RunT.ot0 (x := .v (.int .i64 a1)) rfl rfl rfl rfl (.moveX rfl) ?_
      refine RunT.ot0 (x := .ptr 0 0) rfl rfl rfl rfl (.fieldPX fl26_0 rfl rfl) ?_
      refine RunT.ot0 (x := .lst (List.map eSeat a0.Seats)) rfl rfl rfl rfl (.loadP ty22 rfl rfl rfl) ?_
      refine RunT.ot0 (x := .v (.int .i64 (a0.Seats.length : Int))) rfl rfl rfl rfl (.lenLm Try.underlying22 rfl rfl) ?_
      refine RunT.ot0 (x := .v (.bool (decide ((a0.Seats.length : Int) ≤ a1)))) rfl rfl rfl rfl (.bin rfl rfl (fun w => b_geq w) rfl) ?_
      refine RunT.ot0 (x := .v (.bool (decide ((a0.Seats.length : Int) ≤ a1)))) rfl rfl rfl rfl (.assignX rfl) ?_
      refine RunT.nil ?_
      refine T.cond2 (t := decide ((a0.Seats.length : Int) ≤ a1)) rfl (fun c11 => ?_) (fun c11 => ?_)
      · replace H := ct H c11
        refine T.exit ?_
        refine T.seq ?_
        refine T.seq ?_
        refine T.region ?_
        refine RunT.ot0 (x := .v (.slice none 0 0)) rfl rfl rfl rfl (.assignX rfl) ?_
        refine RunT.nil ?_
        obtain rfl := si H
        have HX := exr HO8
        obtain rfl := si HX
        refine T.sub (sub_to (st' := ⟨[(4, .own 0 0 0)], [(0, some (.arr false 1 (List.map eI [])))], 8, []⟩) [none] (by decide) rfl rfl (⟨⟨_, rfl, .one .nilO⟩, trivial⟩) (⟨⟨rfl, .inr ⟨rfl, false, _, rfl, (by decide)⟩⟩, trivial⟩)) ?_
        refine T.ret ?_
        exact RetOk.same [.own 0 0 0] ⟨rfl, trivial⟩ rfl rfl rfl
      · replace H := cf H c11
        refine T.skip ?_
        refine T.seq ?_
        refine T.region ?_
        refine RunT.ot0 (x := .agg [.lst (List.map eSeat a0.Seats), .v (.int .i64 a0.Gap), .v (.int .i64 a0.Radius), .lst (List.map eI a0.Kills), .lst (List.map ePole a0.Poles)]) rfl rfl rfl rfl (.loadP ty26 rfl rfl rfl) ?_
        obtain ⟨r12, h13, H⟩ := bs H
        refine RunT.ot0 (x := .v (.bool r12)) rfl rfl rfl rfl (.callp (venue_May_pc false k a0 r12 h13) rfl ⟨(.agg' ⟨.lst, .v, .v, .lst, .lst, trivial⟩), trivial⟩ rfl rfl rfl) ?_
        refine RunT.ot0 (x := .v (.bool (!r12))) rfl rfl rfl rfl (.un rfl (fun w => u_not w) rfl) ?_
        refine RunT.ot0 (x := .v (.bool (!r12))) rfl rfl rfl rfl (.assignX rfl) ?_
        refine RunT.nil ?_
        refine T.cond2 (t := !r12) rfl (fun c14 => ?_) (fun c14 => ?_)
        · replace H := ct H c14
          refine T.exit ?_
          refine T.seq ?_
          refine T.seq ?_
          refine T.sub (sub_pick [] [] (st' := ⟨[], [], 8, []⟩) rfl rfl rfl rfl rfl) ?_
          refine T.region ?_
          refine RunT.ot0 (x := .v (.slice none 0 0)) rfl rfl rfl rfl (.assignX rfl) ?_
          refine RunT.nil ?_
          obtain rfl := si H
          have HX := exr HO8
          obtain rfl := si HX
          refine T.sub (sub_to (st' := ⟨[(4, .own 0 0 0)], [(0, some (.arr false 1 (List.map eI [])))], 8, []⟩) [none] (by decide) rfl rfl (⟨⟨_, rfl, .one .nilO⟩, trivial⟩) (⟨⟨rfl, .inr ⟨rfl, false, _, rfl, (by decide)⟩⟩, trivial⟩)) ?_
          refine T.ret ?_
          exact RetOk.same [.own 0 0 0] ⟨rfl, trivial⟩ rfl rfl rfl
        · replace H := cf H c14
          refine T.skip ?_
          refine T.exit ?_
          obtain rfl := si H
          exact ⟨_, rfl, (sub_to [some 0] (by decide) rfl rfl (⟨⟨_, rfl, .one .v⟩, ⟨⟨_, rfl, .one (.ptr rfl)⟩, trivial⟩⟩) (⟨⟨rfl, .inl ⟨_, _, rfl, rfl, .box ⟨.lst, .v, .v, .lst, .lst, trivial⟩⟩⟩, trivial⟩))⟩
  · intro v9 hR 
    subst hR
    have H := exg HO8
    refine T.seq ?_
    refine T.region ?_
    refine RunT.ot0 (x := .agg [.lst (List.map eSeat a0.Seats), .v (.int .i64 a0.Gap), .v (.int .i64 a0.Radius), .lst (List.map eI a0.Kills), .lst (List.map ePole a0.Poles)]) rfl rfl rfl rfl (.loadP ty26 rfl rfl rfl) ?_
    refine RunT.ot0 (x := .v (.int .i64 a1)) rfl rfl rfl rfl (.moveX rfl) ?_
    obtain ⟨r15, h16, H⟩ := bs H
    refine RunT.ot1 (x := .own 8 0 ((List.map eI r15).length)) (p0 := (8, some (.arr false 1 (List.map eI r15)))) (n' := 16) rfl rfl rfl rfl (.callp (kill_by_pc false k a0 a1 r15 h16) rfl ⟨(.agg' ⟨.lst, .v, .v, .lst, .lst, trivial⟩), (.one .v), trivial⟩ rfl rfl rfl) rfl ?_
    refine RunT.ot0 (x := .own 8 0 ((List.map eI r15).length)) rfl rfl rfl rfl (.assignX rfl) ?_
    refine RunT.nil ?_
    obtain rfl := si H
    refine T.sub (sub_to (st' := ⟨[(4, .own 0 0 ((List.map eI r15).length))], [(0, some (.arr false 1 (List.map eI r15)))], 8, []⟩) [some 8] (by decide) rfl rfl (⟨⟨_, rfl, .one (.own' rfl ((List.length_map _).trans (List.length_map _).symm))⟩, trivial⟩) (⟨⟨rfl, .inl ⟨_, _, rfl, rfl, .arr rfl⟩⟩, trivial⟩)) ?_
    refine T.ret ?_
    exact RetOk.same [.own 0 0 ((List.map eI r15).length)] ⟨rfl, trivial⟩ rfl rfl rfl
set_option maxHeartbeats 4000000 in
theorem law8_told_pc (al : Bool) (k : Nat)  (o : Bool) (H : law8_told k  = some o) : PC Try.prog al 51 [] (.v (.bool o)) := by
  unfold law8_told at H
  refine PC.of_T Try.func51 rfl rfl (n := 80) rfl rfl (.inr rfl) ?_
  intro base B w0
  refine T.st (st' := ⟨[], [], 0, []⟩) rfl ?_
  refine T.seq ?_
  refine T.region ?_
  refine RunT.ot0 (x := .v (.bool false)) rfl rfl rfl rfl (.assignX rfl) ?_
  refine RunT.nil ?_
  refine T.seq ?_
  refine T.region ?_
  refine RunT.ot0 (x := .agg [.v (.int .i64 0), .v (.int .i64 0), .v (.int .i64 0), .v (.int .i64 0)]) rfl rfl rfl rfl (.bu bu28 rfl) ?_
  refine RunT.ot0 (x := .agg [.v (.int .i64 0), .v (.int .i64 3), .v (.int .i64 0), .v (.int .i64 0)]) rfl rfl rfl rfl (.bu bu28 rfl) ?_
  refine RunT.ot0 (x := .agg [.v (.int .i64 0), .v (.int .i64 9), .v (.int .i64 0), .v (.int .i64 0)]) rfl rfl rfl rfl (.bu bu28 rfl) ?_
  refine RunT.ot1 (x := .own 0 0 (([Seat.mk 0 0 0 0, Seat.mk 0 3 0 0, Seat.mk 0 9 0 0]).length)) (p0 := (0, some (.arr false 4 (List.map eSeat [Seat.mk 0 0 0 0, Seat.mk 0 3 0 0, Seat.mk 0 9 0 0])))) (n' := 8) rfl rfl rfl rfl (.bslicem (d := false) (l := [Seat.mk 0 0 0 0, Seat.mk 0 3 0 0, Seat.mk 0 9 0 0]) (f := eSeat) sl22 rfl rfl rfl enc_Seat rfl) rfl ?_
  refine RunT.ot1 (x := .own 8 0 (([2]).length)) (p0 := (8, some (.arr false 1 (List.map eI [2])))) (n' := 16) rfl rfl rfl rfl (.bslicem (d := false) (l := [2]) (f := eI) sl23 rfl rfl rfl enc_I rfl) rfl ?_
  refine RunT.ot0 (x := .agg [.v (.int .i64 0), .v (.int .i64 0), .v (.int .i64 3)]) rfl rfl rfl rfl (.bu bu60 rfl) ?_
  refine RunT.ot0 (x := .agg [.v (.int .i64 9), .v (.int .i64 0), .v (.int .i64 1)]) rfl rfl rfl rfl (.bu bu60 rfl) ?_
  refine RunT.ot1 (x := .own 16 0 (([Pole.mk 0 0 3, Pole.mk 9 0 1]).length)) (p0 := (16, some (.arr false 3 (List.map ePole [Pole.mk 0 0 3, Pole.mk 9 0 1])))) (n' := 24) rfl rfl rfl rfl (.bslicem (d := false) (l := [Pole.mk 0 0 3, Pole.mk 9 0 1]) (f := ePole) sl24 rfl rfl rfl enc_Pole rfl) rfl ?_
  refine RunT.ot0 (x := .agg [.own 0 0 (([Seat.mk 0 0 0 0, Seat.mk 0 3 0 0, Seat.mk 0 9 0 0]).length), .v (.int .i64 1), .v (.int .i64 0), .own 8 0 (([2]).length), .own 16 0 (([Pole.mk 0 0 3, Pole.mk 9 0 1]).length)]) rfl rfl rfl rfl (.bu bu26 rfl) ?_
  refine RunT.ot1 (x := .ptr 24 0) (p0 := (24, some (.box [.v (.slice none 0 0), .v (.int .i64 0), .v (.int .i64 0), .v (.slice none 0 0), .v (.slice none 0 0)]))) (n' := 32) rfl rfl rfl rfl (.allocX in26.zero rfl rfl) rfl ?_
  refine RunT.on1 (x := .junk) (p0 := (24, some (.box [.own 0 0 (([Seat.mk 0 0 0 0, Seat.mk 0 3 0 0, Seat.mk 0 9 0 0]).length), .v (.int .i64 1), .v (.int .i64 0), .own 8 0 (([2]).length), .own 16 0 (([Pole.mk 0 0 3, Pole.mk 9 0 1]).length)]))) (n' := 40) rfl rfl rfl (.storePX ty26 rfl rfl rfl rfl rfl rfl rfl) rfl ?_
  refine RunT.nil ?_
  refine T.seq ?_
  refine T.region ?_
  refine RunT.ot0 (x := .agg [.own 0 0 (([Seat.mk 0 0 0 0, Seat.mk 0 3 0 0, Seat.mk 0 9 0 0]).length), .v (.int .i64 1), .v (.int .i64 0), .own 8 0 (([2]).length), .own 16 0 (([Pole.mk 0 0 3, Pole.mk 9 0 1]).length)]) rfl rfl rfl rfl (.loadP ty26 rfl rfl rfl) ?_
  obtain ⟨r1, h2, H⟩ := bs H
  refine RunT.ot0 (x := .lst (List.map eB r1)) rfl rfl rfl rfl (.callp (PC.frozen (kill_Usable_pc false k (Venue.mk [Seat.mk 0 0 0 0, Seat.mk 0 3 0 0, Seat.mk 0 9 0 0] 1 0 [2] [Pole.mk 0 0 3, Pole.mk 9 0 1]) r1 h2)) rfl ⟨(.agg' ⟨(.all rfl (List.length_map _).symm), .v, .v, (.all rfl (List.length_map _).symm), (.all rfl (List.length_map _).symm), trivial⟩), trivial⟩ rfl rfl rfl) ?_
  refine RunT.ot0 (x := .lst (List.map eB r1)) rfl rfl rfl rfl (.assignX rfl) ?_
  refine RunT.nil ?_
  refine T.seq ?_
  refine T.region ?_
  refine RunT.ot0 (x := .agg [.own 0 0 (([Seat.mk 0 0 0 0, Seat.mk 0 3 0 0, Seat.mk 0 9 0 0]).length), .v (.int .i64 1), .v (.int .i64 0), .own 8 0 (([2]).length), .own 16 0 (([Pole.mk 0 0 3, Pole.mk 9 0 1]).length)]) rfl rfl rfl rfl (.loadP ty26 rfl rfl rfl) ?_
  obtain ⟨r3, h4, H⟩ := bs H
  refine RunT.ot0 (x := .lst (List.map eI r3)) rfl rfl rfl rfl (.callp (PC.frozen (kill_Killed_pc false k (Venue.mk [Seat.mk 0 0 0 0, Seat.mk 0 3 0 0, Seat.mk 0 9 0 0] 1 0 [2] [Pole.mk 0 0 3, Pole.mk 9 0 1]) r3 h4)) rfl ⟨(.agg' ⟨(.all rfl (List.length_map _).symm), .v, .v, (.all rfl (List.length_map _).symm), (.all rfl (List.length_map _).symm), trivial⟩), trivial⟩ rfl rfl rfl) ?_
  refine RunT.ot0 (x := .lst (List.map eI r3)) rfl rfl rfl rfl (.assignX rfl) ?_
  refine RunT.nil ?_
  refine T.seq ?_
  refine T.sub (sub_pick [1, 2, 3] [0, 8, 16, 24] (st' := ⟨[(1, .ptr 24 0), (2, .lst (List.map eB r1)), (3, .lst (List.map eI r3))], [(0, some (.arr false 4 (List.map eSeat [Seat.mk 0 0 0 0, Seat.mk 0 3 0 0, Seat.mk 0 9 0 0]))), (8, some (.arr false 1 (List.map eI [2]))), (16, some (.arr false 3 (List.map ePole [Pole.mk 0 0 3, Pole.mk 9 0 1]))), (24, some (.box [.own 0 0 (([Seat.mk 0 0 0 0, Seat.mk 0 3 0 0, Seat.mk 0 9 0 0]).length), .v (.int .i64 1), .v (.int .i64 0), .own 8 0 (([2]).length), .own 16 0 (([Pole.mk 0 0 3, Pole.mk 9 0 1]).length)]))], 40, []⟩) rfl rfl rfl rfl rfl) ?_
  refine T.region ?_
  refine RunT.ot0 (x := .agg [.own 0 0 (([Seat.mk 0 0 0 0, Seat.mk 0 3 0 0, Seat.mk 0 9 0 0]).length), .v (.int .i64 1), .v (.int .i64 0), .own 8 0 (([2]).length), .own 16 0 (([Pole.mk 0 0 3, Pole.mk 9 0 1]).length)]) rfl rfl rfl rfl (.loadP ty26 rfl rfl rfl) ?_
  obtain ⟨r5, h6, H⟩ := bs H
  refine RunT.ot0 (x := .lst (List.map eI r5)) rfl rfl rfl rfl (.callp (PC.frozen (kill_By_pc false k (Venue.mk [Seat.mk 0 0 0 0, Seat.mk 0 3 0 0, Seat.mk 0 9 0 0] 1 0 [2] [Pole.mk 0 0 3, Pole.mk 9 0 1]) 2 r5 h6)) rfl ⟨(.agg' ⟨(.all rfl (List.length_map _).symm), .v, .v, (.all rfl (List.length_map _).symm), (.all rfl (List.length_map _).symm), trivial⟩), (.one .v), trivial⟩ rfl rfl rfl) ?_
  refine RunT.ot0 (x := .lst (List.map eI r5)) rfl rfl rfl rfl (.assignX rfl) ?_
  refine RunT.nil ?_
  refine T.seq ?_
  refine T.region ?_
  refine RunT.ot0 (x := .lst (List.map eB r1)) rfl rfl rfl rfl (.moveX rfl) ?_
  refine RunT.ot0 (x := .v (.int .i64 (r1.length : Int))) rfl rfl rfl rfl (.lenLm Try.underlying43 rfl rfl) ?_
  refine RunT.ot0 (x := .v (.bool (decide ((r1.length : Int) = 3)))) rfl rfl rfl rfl (.bin rfl rfl (fun w => b_eql w) rfl) ?_
  refine RunT.ot0 (x := .v (.bool (decide ((r1.length : Int) = 3)))) rfl rfl rfl rfl (.moveX rfl) ?_
  refine RunT.cases (t := 23) (c := decide ((r1.length : Int) = 3)) rfl (fun g7 => ?_) (fun g7 => ?_)
  · replace H := ct H g7
    refine RunT.gt0 (x := .lst (List.map eB r1)) rfl rfl rfl (bo g7) rfl rfl (.moveX rfl) ?_
    obtain ⟨y8, h9, H⟩ := bs H
    refine RunT.gt0 (x := .rptr [.v (.bool y8)]) rfl rfl rfl (bo g7) rfl rfl (.idxLX h9 enc_B sl43 rfl rfl rfl) ?_
    refine RunT.gt0 (x := .v (.bool y8)) rfl rfl rfl (bo g7) rfl rfl (.loadR ty4 rfl rfl) ?_
    refine RunT.gt0 (x := .v (.bool (!y8))) rfl rfl rfl (bo g7) rfl rfl (.un rfl (fun w => u_not w) rfl) ?_
    refine RunT.ot0 (x := .v (.bool (!y8))) rfl rfl rfl rfl (.pickT (bo g7) rfl) ?_
    refine RunT.ot0 (x := .v (.bool (!y8))) rfl rfl rfl rfl (.moveX rfl) ?_
    refine RunT.cases (t := 29) (c := !y8) rfl (fun g10 => ?_) (fun g10 => ?_)
    · replace H := ct H g10
      refine RunT.gt0 (x := .lst (List.map eB r1)) rfl rfl rfl (bo g10) rfl rfl (.moveX rfl) ?_
      obtain ⟨y11, h12, H⟩ := bs H
      refine RunT.gt0 (x := .rptr [.v (.bool y11)]) rfl rfl rfl (bo g10) rfl rfl (.idxLX h12 enc_B sl43 rfl rfl rfl) ?_
      refine RunT.gt0 (x := .v (.bool y11)) rfl rfl rfl (bo g10) rfl rfl (.loadR ty4 rfl rfl) ?_
      refine RunT.ot0 (x := .v (.bool y11)) rfl rfl rfl rfl (.pickT (bo g10) rfl) ?_
      refine RunT.ot0 (x := .v (.bool y11)) rfl rfl rfl rfl (.moveX rfl) ?_
      refine RunT.cases (t := 34) (c := y11) rfl (fun g13 => ?_) (fun g13 => ?_)
      · replace H := ct H g13
        refine RunT.gt0 (x := .lst (List.map eB r1)) rfl rfl rfl (bo g13) rfl rfl (.moveX rfl) ?_
        obtain ⟨y14, h15, H⟩ := bs H
        refine RunT.gt0 (x := .rptr [.v (.bool y14)]) rfl rfl rfl (bo g13) rfl rfl (.idxLX h15 enc_B sl43 rfl rfl rfl) ?_
        refine RunT.gt0 (x := .v (.bool y14)) rfl rfl rfl (bo g13) rfl rfl (.loadR ty4 rfl rfl) ?_
        refine RunT.gt0 (x := .v (.bool (!y14))) rfl rfl rfl (bo g13) rfl rfl (.un rfl (fun w => u_not w) rfl) ?_
        refine RunT.ot0 (x := .v (.bool (!y14))) rfl rfl rfl rfl (.pickT (bo g13) rfl) ?_
        refine RunT.ot0 (x := .v (.bool (!y14))) rfl rfl rfl rfl (.moveX rfl) ?_
        refine RunT.cases (t := 40) (c := !y14) rfl (fun g16 => ?_) (fun g16 => ?_)
        · replace H := ct H g16
          refine RunT.gt0 (x := .lst (List.map eI r3)) rfl rfl rfl (bo g16) rfl rfl (.moveX rfl) ?_
          refine RunT.gt0 (x := .v (.int .i64 (r3.length : Int))) rfl rfl rfl (bo g16) rfl rfl (.lenLm Try.underlying23 rfl rfl) ?_
          refine RunT.gt0 (x := .v (.bool (decide ((r3.length : Int) = 2)))) rfl rfl rfl (bo g16) rfl rfl (.bin rfl rfl (fun w => b_eql w) rfl) ?_
          refine RunT.ot0 (x := .v (.bool (decide ((r3.length : Int) = 2)))) rfl rfl rfl rfl (.pickT (bo g16) rfl) ?_
          refine RunT.ot0 (x := .v (.bool (decide ((r3.length : Int) = 2)))) rfl rfl rfl rfl (.moveX rfl) ?_
          refine RunT.cases (t := 45) (c := decide ((r3.length : Int) = 2)) rfl (fun g17 => ?_) (fun g17 => ?_)
          · replace H := ct H g17
            refine RunT.gt0 (x := .lst (List.map eI r3)) rfl rfl rfl (bo g17) rfl rfl (.moveX rfl) ?_
            obtain ⟨y18, h19, H⟩ := bs H
            refine RunT.gt0 (x := .rptr [.v (.int .i64 y18)]) rfl rfl rfl (bo g17) rfl rfl (.idxLX h19 enc_I sl23 rfl rfl rfl) ?_
            refine RunT.gt0 (x := .v (.int .i64 y18)) rfl rfl rfl (bo g17) rfl rfl (.loadR ty3 rfl rfl) ?_
            refine RunT.gt0 (x := .v (.bool (decide (y18 = 2)))) rfl rfl rfl (bo g17) rfl rfl (.bin rfl rfl (fun w => b_eql w) rfl) ?_
            refine RunT.ot0 (x := .v (.bool (decide (y18 = 2)))) rfl rfl rfl rfl (.pickT (bo g17) rfl) ?_
            refine RunT.ot0 (x := .v (.bool (decide (y18 = 2)))) rfl rfl rfl rfl (.moveX rfl) ?_
            refine RunT.cases (t := 51) (c := decide (y18 = 2)) rfl (fun g20 => ?_) (fun g20 => ?_)
            · replace H := ct H g20
              refine RunT.gt0 (x := .lst (List.map eI r5)) rfl rfl rfl (bo g20) rfl rfl (.moveX rfl) ?_
              refine RunT.gt0 (x := .v (.int .i64 (r5.length : Int))) rfl rfl rfl (bo g20) rfl rfl (.lenLm Try.underlying23 rfl rfl) ?_
              refine RunT.gt0 (x := .v (.bool (decide ((r5.length : Int) = 2)))) rfl rfl rfl (bo g20) rfl rfl (.bin rfl rfl (fun w => b_eql w) rfl) ?_
              refine RunT.ot0 (x := .v (.bool (decide ((r5.length : Int) = 2)))) rfl rfl rfl rfl (.pickT (bo g20) rfl) ?_
              refine RunT.ot0 (x := .v (.bool (decide ((r5.length : Int) = 2)))) rfl rfl rfl rfl (.moveX rfl) ?_
              refine RunT.cases (t := 56) (c := decide ((r5.length : Int) = 2)) rfl (fun g21 => ?_) (fun g21 => ?_)
              · replace H := ct H g21
                refine RunT.gt0 (x := .lst (List.map eI r5)) rfl rfl rfl (bo g21) rfl rfl (.moveX rfl) ?_
                obtain ⟨y22, h23, H⟩ := bs H
                refine RunT.gt0 (x := .rptr [.v (.int .i64 y22)]) rfl rfl rfl (bo g21) rfl rfl (.idxLX h23 enc_I sl23 rfl rfl rfl) ?_
                refine RunT.gt0 (x := .v (.int .i64 y22)) rfl rfl rfl (bo g21) rfl rfl (.loadR ty3 rfl rfl) ?_
                refine RunT.gt0 (x := .v (.bool (decide (y22 = (-1))))) rfl rfl rfl (bo g21) rfl rfl (.bin rfl rfl (fun w => b_eql w) rfl) ?_
                refine RunT.ot0 (x := .v (.bool (decide (y22 = (-1))))) rfl rfl rfl rfl (.pickT (bo g21) rfl) ?_
                refine RunT.ot0 (x := .v (.bool (decide (y22 = (-1))))) rfl rfl rfl rfl (.moveX rfl) ?_
                refine RunT.cases (t := 62) (c := decide (y22 = (-1))) rfl (fun g24 => ?_) (fun g24 => ?_)
                · replace H := ct H g24
                  refine RunT.gt0 (x := .lst (List.map eI r5)) rfl rfl rfl (bo g24) rfl rfl (.moveX rfl) ?_
                  obtain ⟨y25, h26, H⟩ := bs H
                  refine RunT.gt0 (x := .rptr [.v (.int .i64 y25)]) rfl rfl rfl (bo g24) rfl rfl (.idxLX h26 enc_I sl23 rfl rfl rfl) ?_
                  refine RunT.gt0 (x := .v (.int .i64 y25)) rfl rfl rfl (bo g24) rfl rfl (.loadR ty3 rfl rfl) ?_
                  refine RunT.gt0 (x := .v (.bool (decide (y25 = 1)))) rfl rfl rfl (bo g24) rfl rfl (.bin rfl rfl (fun w => b_eql w) rfl) ?_
                  refine RunT.ot0 (x := .v (.bool (decide (y25 = 1)))) rfl rfl rfl rfl (.pickT (bo g24) rfl) ?_
                  refine RunT.ot0 (x := .v (.bool (decide (y25 = 1)))) rfl rfl rfl rfl (.moveX rfl) ?_
                  refine RunT.cases (t := 68) (c := decide (y25 = 1)) rfl (fun g27 => ?_) (fun g27 => ?_)
                  · replace H := ct H g27
                    refine RunT.gt0 (x := .agg [.own 0 0 (([Seat.mk 0 0 0 0, Seat.mk 0 3 0 0, Seat.mk 0 9 0 0]).length), .v (.int .i64 1), .v (.int .i64 0), .own 8 0 (([2]).length), .own 16 0 (([Pole.mk 0 0 3, Pole.mk 9 0 1]).length)]) rfl rfl rfl (bo g27) rfl rfl (.loadP ty26 rfl rfl rfl) ?_
                    obtain ⟨r28, h29, H⟩ := bs H
                    refine RunT.gt0 (x := .lst (List.map eI r28)) rfl rfl rfl (bo g27) rfl rfl (.callp (PC.frozen (kill_By_pc false k (Venue.mk [Seat.mk 0 0 0 0, Seat.mk 0 3 0 0, Seat.mk 0 9 0 0] 1 0 [2] [Pole.mk 0 0 3, Pole.mk 9 0 1]) 3 r28 h29)) rfl ⟨(.agg' ⟨(.all rfl (List.length_map _).symm), .v, .v, (.all rfl (List.length_map _).symm), (.all rfl (List.length_map _).symm), trivial⟩), (.one .v), trivial⟩ rfl rfl rfl) ?_
                    refine RunT.gt0 (x := .v (.int .i64 (r28.length : Int))) rfl rfl rfl (bo g27) rfl rfl (.lenLm Try.underlying23 rfl rfl) ?_
                    refine RunT.gt0 (x := .v (.bool (decide ((r28.length : Int) = 0)))) rfl rfl rfl (bo g27) rfl rfl (.bin rfl rfl (fun w => b_eql w) rfl) ?_
                    refine RunT.ot0 (x := .v (.bool (decide ((r28.length : Int) = 0)))) rfl rfl rfl rfl (.pickT (bo g27) rfl) ?_
                    refine RunT.ot0 (x := .v (.bool (decide ((r28.length : Int) = 0)))) rfl rfl rfl rfl (.moveX rfl) ?_
                    refine RunT.cases (t := 74) (c := decide ((r28.length : Int) = 0)) rfl (fun g30 => ?_) (fun g30 => ?_)
                    · replace H := ct H g30
                      refine RunT.gt0 (x := .agg [.v (.slice none 0 0), .v (.int .i64 0), .v (.int .i64 0), .v (.slice none 0 0), .v (.slice none 0 0)]) rfl rfl rfl (bo g30) rfl rfl (.bu bu26 rfl) ?_
                      obtain ⟨r31, h32, H⟩ := bs H
                      refine RunT.gt0 (x := .lst (List.map eB r31)) rfl rfl rfl (bo g30) rfl rfl (.callp (PC.frozen (kill_Usable_pc false k (Venue.mk [] 0 0 [] []) r31 h32)) rfl ⟨(.agg' ⟨.nil, .v, .v, .nil, .nil, trivial⟩), trivial⟩ rfl rfl rfl) ?_
                      refine RunT.gt0 (x := .v (.int .i64 (r31.length : Int))) rfl rfl rfl (bo g30) rfl rfl (.lenLm Try.underlying43 rfl rfl) ?_
                      refine RunT.gt0 (x := .v (.bool (decide ((r31.length : Int) = 0)))) rfl rfl rfl (bo g30) rfl rfl (.bin rfl rfl (fun w => b_eql w) rfl) ?_
                      refine RunT.ot0 (x := .v (.bool (decide ((r31.length : Int) = 0)))) rfl rfl rfl rfl (.pickT (bo g30) rfl) ?_
                      refine RunT.ot0 (x := .v (.bool (decide ((r31.length : Int) = 0)))) rfl rfl rfl rfl (.assignX rfl) ?_
                      refine RunT.nil ?_
                      obtain rfl := si H
                      refine T.sub (sub_to (st' := ⟨[(0, .v (.bool (decide ((r31.length : Int) = 0))))], [], 8, []⟩) [] (by decide) rfl rfl (⟨⟨_, rfl, .one .v⟩, trivial⟩) (trivial)) ?_
                      refine T.ret ?_
                      exact RetOk.same [.v (.bool (decide ((r31.length : Int) = 0)))] ⟨rfl, trivial⟩ rfl rfl rfl
                    · replace H := cf H g30
                      refine RunT.xn rfl rfl rfl (bo g30) rfl rfl ?_
                      refine RunT.xn rfl rfl rfl (bo g30) rfl rfl ?_
                      refine RunT.xn rfl rfl rfl (bo g30) rfl rfl ?_
                      refine RunT.xn rfl rfl rfl (bo g30) rfl rfl ?_
                      refine RunT.ot0 (x := .v (.bool false)) rfl rfl rfl rfl (.pickF (bo g30) rfl) ?_
                      refine RunT.ot0 (x := .v (.bool false)) rfl rfl rfl rfl (.assignX rfl) ?_
                      refine RunT.nil ?_
                      obtain rfl := si H
                      refine T.sub (sub_to (st' := ⟨[(0, .v (.bool false))], [], 8, []⟩) [] (by decide) rfl rfl (⟨⟨_, rfl, .one .v⟩, trivial⟩) (trivial)) ?_
                      refine T.ret ?_
                      exact RetOk.same [.v (.bool false)] ⟨rfl, trivial⟩ rfl rfl rfl
                  · replace H := cf H g27
                    refine RunT.xn rfl rfl rfl (bo g27) rfl rfl ?_
                    refine RunT.xn rfl rfl rfl (bo g27) rfl rfl ?_
                    refine RunT.xn rfl rfl rfl (bo g27) rfl rfl ?_
                    refine RunT.xn rfl rfl rfl (bo g27) rfl rfl ?_
                    refine RunT.ot0 (x := .v (.bool false)) rfl rfl rfl rfl (.pickF (bo g27) rfl) ?_
                    refine RunT.ot0 (x := .v (.bool false)) rfl rfl rfl rfl (.moveX rfl) ?_
                    refine RunT.xn rfl rfl rfl rfl rfl rfl ?_
                    refine RunT.xn rfl rfl rfl rfl rfl rfl ?_
                    refine RunT.xn rfl rfl rfl rfl rfl rfl ?_
                    refine RunT.xn rfl rfl rfl rfl rfl rfl ?_
                    refine RunT.ot0 (x := .v (.bool false)) rfl rfl rfl rfl (.pickF rfl rfl) ?_
                    refine RunT.ot0 (x := .v (.bool false)) rfl rfl rfl rfl (.assignX rfl) ?_
                    refine RunT.nil ?_
                    obtain rfl := si H
                    refine T.sub (sub_to (st' := ⟨[(0, .v (.bool false))], [], 8, []⟩) [] (by decide) rfl rfl (⟨⟨_, rfl, .one .v⟩, trivial⟩) (trivial)) ?_
                    refine T.ret ?_
                    exact RetOk.same [.v (.bool false)] ⟨rfl, trivial⟩ rfl rfl rfl
                · replace H := cf H g24
                  refine RunT.xn rfl rfl rfl (bo g24) rfl rfl ?_
                  refine RunT.xn rfl rfl rfl (bo g24) rfl rfl ?_
                  refine RunT.xn rfl rfl rfl (bo g24) rfl rfl ?_
                  refine RunT.xn rfl rfl rfl (bo g24) rfl rfl ?_
                  refine RunT.ot0 (x := .v (.bool false)) rfl rfl rfl rfl (.pickF (bo g24) rfl) ?_
                  refine RunT.ot0 (x := .v (.bool false)) rfl rfl rfl rfl (.moveX rfl) ?_
                  refine RunT.xn rfl rfl rfl rfl rfl rfl ?_
                  refine RunT.xn rfl rfl rfl rfl rfl rfl ?_
                  refine RunT.xn rfl rfl rfl rfl rfl rfl ?_
                  refine RunT.xn rfl rfl rfl rfl rfl rfl ?_
                  refine RunT.ot0 (x := .v (.bool false)) rfl rfl rfl rfl (.pickF rfl rfl) ?_
                  refine RunT.ot0 (x := .v (.bool false)) rfl rfl rfl rfl (.moveX rfl) ?_
                  refine RunT.xn rfl rfl rfl rfl rfl rfl ?_
                  refine RunT.xn rfl rfl rfl rfl rfl rfl ?_
                  refine RunT.xn rfl rfl rfl rfl rfl rfl ?_
                  refine RunT.xn rfl rfl rfl rfl rfl rfl ?_
                  refine RunT.ot0 (x := .v (.bool false)) rfl rfl rfl rfl (.pickF rfl rfl) ?_
                  refine RunT.ot0 (x := .v (.bool false)) rfl rfl rfl rfl (.assignX rfl) ?_
                  refine RunT.nil ?_
                  obtain rfl := si H
                  refine T.sub (sub_to (st' := ⟨[(0, .v (.bool false))], [], 8, []⟩) [] (by decide) rfl rfl (⟨⟨_, rfl, .one .v⟩, trivial⟩) (trivial)) ?_
                  refine T.ret ?_
                  exact RetOk.same [.v (.bool false)] ⟨rfl, trivial⟩ rfl rfl rfl
              · replace H := cf H g21
                refine RunT.xn rfl rfl rfl (bo g21) rfl rfl ?_
                refine RunT.xn rfl rfl rfl (bo g21) rfl rfl ?_
                refine RunT.xn rfl rfl rfl (bo g21) rfl rfl ?_
                refine RunT.xn rfl rfl rfl (bo g21) rfl rfl ?_
                refine RunT.ot0 (x := .v (.bool false)) rfl rfl rfl rfl (.pickF (bo g21) rfl) ?_
                refine RunT.ot0 (x := .v (.bool false)) rfl rfl rfl rfl (.moveX rfl) ?_
                refine RunT.xn rfl rfl rfl rfl rfl rfl ?_
                refine RunT.xn rfl rfl rfl rfl rfl rfl ?_
                refine RunT.xn rfl rfl rfl rfl rfl rfl ?_
                refine RunT.xn rfl rfl rfl rfl rfl rfl ?_
                refine RunT.ot0 (x := .v (.bool false)) rfl rfl rfl rfl (.pickF rfl rfl) ?_
                refine RunT.ot0 (x := .v (.bool false)) rfl rfl rfl rfl (.moveX rfl) ?_
                refine RunT.xn rfl rfl rfl rfl rfl rfl ?_
                refine RunT.xn rfl rfl rfl rfl rfl rfl ?_
                refine RunT.xn rfl rfl rfl rfl rfl rfl ?_
                refine RunT.xn rfl rfl rfl rfl rfl rfl ?_
                refine RunT.ot0 (x := .v (.bool false)) rfl rfl rfl rfl (.pickF rfl rfl) ?_
                refine RunT.ot0 (x := .v (.bool false)) rfl rfl rfl rfl (.moveX rfl) ?_
                refine RunT.xn rfl rfl rfl rfl rfl rfl ?_
                refine RunT.xn rfl rfl rfl rfl rfl rfl ?_
                refine RunT.xn rfl rfl rfl rfl rfl rfl ?_
                refine RunT.xn rfl rfl rfl rfl rfl rfl ?_
                refine RunT.ot0 (x := .v (.bool false)) rfl rfl rfl rfl (.pickF rfl rfl) ?_
                refine RunT.ot0 (x := .v (.bool false)) rfl rfl rfl rfl (.assignX rfl) ?_
                refine RunT.nil ?_
                obtain rfl := si H
                refine T.sub (sub_to (st' := ⟨[(0, .v (.bool false))], [], 8, []⟩) [] (by decide) rfl rfl (⟨⟨_, rfl, .one .v⟩, trivial⟩) (trivial)) ?_
                refine T.ret ?_
                exact RetOk.same [.v (.bool false)] ⟨rfl, trivial⟩ rfl rfl rfl
            · replace H := cf H g20
              refine RunT.xn rfl rfl rfl (bo g20) rfl rfl ?_
              refine RunT.xn rfl rfl rfl (bo g20) rfl rfl ?_
              refine RunT.xn rfl rfl rfl (bo g20) rfl rfl ?_
              refine RunT.ot0 (x := .v (.bool false)) rfl rfl rfl rfl (.pickF (bo g20) rfl) ?_
              refine RunT.ot0 (x := .v (.bool false)) rfl rfl rfl rfl (.moveX rfl) ?_
              refine RunT.xn rfl rfl rfl rfl rfl rfl ?_
              refine RunT.xn rfl rfl rfl rfl rfl rfl ?_
              refine RunT.xn rfl rfl rfl rfl rfl rfl ?_
              refine RunT.xn rfl rfl rfl rfl rfl rfl ?_
              refine RunT.ot0 (x := .v (.bool false)) rfl rfl rfl rfl (.pickF rfl rfl) ?_
              refine RunT.ot0 (x := .v (.bool false)) rfl rfl rfl rfl (.moveX rfl) ?_
              refine RunT.xn rfl rfl rfl rfl rfl rfl ?_
              refine RunT.xn rfl rfl rfl rfl rfl rfl ?_
              refine RunT.xn rfl rfl rfl rfl rfl rfl ?_
              refine RunT.xn rfl rfl rfl rfl rfl rfl ?_
              refine RunT.ot0 (x := .v (.bool false)) rfl rfl rfl rfl (.pickF rfl rfl) ?_
              refine RunT.ot0 (x := .v (.bool false)) rfl rfl rfl rfl (.moveX rfl) ?_
              refine RunT.xn rfl rfl rfl rfl rfl rfl ?_
              refine RunT.xn rfl rfl rfl rfl rfl rfl ?_
              refine RunT.xn rfl rfl rfl rfl rfl rfl ?_
              refine RunT.xn rfl rfl rfl rfl rfl rfl ?_
              refine RunT.ot0 (x := .v (.bool false)) rfl rfl rfl rfl (.pickF rfl rfl) ?_
              refine RunT.ot0 (x := .v (.bool false)) rfl rfl rfl rfl (.moveX rfl) ?_
              refine RunT.xn rfl rfl rfl rfl rfl rfl ?_
              refine RunT.xn rfl rfl rfl rfl rfl rfl ?_
              refine RunT.xn rfl rfl rfl rfl rfl rfl ?_
              refine RunT.xn rfl rfl rfl rfl rfl rfl ?_
              refine RunT.ot0 (x := .v (.bool false)) rfl rfl rfl rfl (.pickF rfl rfl) ?_
              refine RunT.ot0 (x := .v (.bool false)) rfl rfl rfl rfl (.assignX rfl) ?_
              refine RunT.nil ?_
              obtain rfl := si H
              refine T.sub (sub_to (st' := ⟨[(0, .v (.bool false))], [], 8, []⟩) [] (by decide) rfl rfl (⟨⟨_, rfl, .one .v⟩, trivial⟩) (trivial)) ?_
              refine T.ret ?_
              exact RetOk.same [.v (.bool false)] ⟨rfl, trivial⟩ rfl rfl rfl
          · replace H := cf H g17
            refine RunT.xn rfl rfl rfl (bo g17) rfl rfl ?_
            refine RunT.xn rfl rfl rfl (bo g17) rfl rfl ?_
            refine RunT.xn rfl rfl rfl (bo g17) rfl rfl ?_
            refine RunT.xn rfl rfl rfl (bo g17) rfl rfl ?_
            refine RunT.ot0 (x := .v (.bool false)) rfl rfl rfl rfl (.pickF (bo g17) rfl) ?_
            refine RunT.ot0 (x := .v (.bool false)) rfl rfl rfl rfl (.moveX rfl) ?_
            refine RunT.xn rfl rfl rfl rfl rfl rfl ?_
            refine RunT.xn rfl rfl rfl rfl rfl rfl ?_
            refine RunT.xn rfl rfl rfl rfl rfl rfl ?_
            refine RunT.ot0 (x := .v (.bool false)) rfl rfl rfl rfl (.pickF rfl rfl) ?_
            refine RunT.ot0 (x := .v (.bool false)) rfl rfl rfl rfl (.moveX rfl) ?_
            refine RunT.xn rfl rfl rfl rfl rfl rfl ?_
            refine RunT.xn rfl rfl rfl rfl rfl rfl ?_
            refine RunT.xn rfl rfl rfl rfl rfl rfl ?_
            refine RunT.xn rfl rfl rfl rfl rfl rfl ?_
            refine RunT.ot0 (x := .v (.bool false)) rfl rfl rfl rfl (.pickF rfl rfl) ?_
            refine RunT.ot0 (x := .v (.bool false)) rfl rfl rfl rfl (.moveX rfl) ?_
            refine RunT.xn rfl rfl rfl rfl rfl rfl ?_
            refine RunT.xn rfl rfl rfl rfl rfl rfl ?_
            refine RunT.xn rfl rfl rfl rfl rfl rfl ?_
            refine RunT.xn rfl rfl rfl rfl rfl rfl ?_
            refine RunT.ot0 (x := .v (.bool false)) rfl rfl rfl rfl (.pickF rfl rfl) ?_
            refine RunT.ot0 (x := .v (.bool false)) rfl rfl rfl rfl (.moveX rfl) ?_
            refine RunT.xn rfl rfl rfl rfl rfl rfl ?_
            refine RunT.xn rfl rfl rfl rfl rfl rfl ?_
            refine RunT.xn rfl rfl rfl rfl rfl rfl ?_
            refine RunT.xn rfl rfl rfl rfl rfl rfl ?_
            refine RunT.ot0 (x := .v (.bool false)) rfl rfl rfl rfl (.pickF rfl rfl) ?_
            refine RunT.ot0 (x := .v (.bool false)) rfl rfl rfl rfl (.moveX rfl) ?_
            refine RunT.xn rfl rfl rfl rfl rfl rfl ?_
            refine RunT.xn rfl rfl rfl rfl rfl rfl ?_
            refine RunT.xn rfl rfl rfl rfl rfl rfl ?_
            refine RunT.xn rfl rfl rfl rfl rfl rfl ?_
            refine RunT.ot0 (x := .v (.bool false)) rfl rfl rfl rfl (.pickF rfl rfl) ?_
            refine RunT.ot0 (x := .v (.bool false)) rfl rfl rfl rfl (.assignX rfl) ?_
            refine RunT.nil ?_
            obtain rfl := si H
            refine T.sub (sub_to (st' := ⟨[(0, .v (.bool false))], [], 8, []⟩) [] (by decide) rfl rfl (⟨⟨_, rfl, .one .v⟩, trivial⟩) (trivial)) ?_
            refine T.ret ?_
            exact RetOk.same [.v (.bool false)] ⟨rfl, trivial⟩ rfl rfl rfl
        · replace H := cf H g16
          refine RunT.xn rfl rfl rfl (bo g16) rfl rfl ?_
          refine RunT.xn rfl rfl rfl (bo g16) rfl rfl ?_
          refine RunT.xn rfl rfl rfl (bo g16) rfl rfl ?_
          refine RunT.ot0 (x := .v (.bool false)) rfl rfl rfl rfl (.pickF (bo g16) rfl) ?_
          refine RunT.ot0 (x := .v (.bool false)) rfl rfl rfl rfl (.moveX rfl) ?_
          refine RunT.xn rfl rfl rfl rfl rfl rfl ?_
          refine RunT.xn rfl rfl rfl rfl rfl rfl ?_
          refine RunT.xn rfl rfl rfl rfl rfl rfl ?_
          refine RunT.xn rfl rfl rfl rfl rfl rfl ?_
          refine RunT.ot0 (x := .v (.bool false)) rfl rfl rfl rfl (.pickF rfl rfl) ?_
          refine RunT.ot0 (x := .v (.bool false)) rfl rfl rfl rfl (.moveX rfl) ?_
          refine RunT.xn rfl rfl rfl rfl rfl rfl ?_
          refine RunT.xn rfl rfl rfl rfl rfl rfl ?_
          refine RunT.xn rfl rfl rfl rfl rfl rfl ?_
          refine RunT.ot0 (x := .v (.bool false)) rfl rfl rfl rfl (.pickF rfl rfl) ?_
          refine RunT.ot0 (x := .v (.bool false)) rfl rfl rfl rfl (.moveX rfl) ?_
          refine RunT.xn rfl rfl rfl rfl rfl rfl ?_
          refine RunT.xn rfl rfl rfl rfl rfl rfl ?_
          refine RunT.xn rfl rfl rfl rfl rfl rfl ?_
          refine RunT.xn rfl rfl rfl rfl rfl rfl ?_
          refine RunT.ot0 (x := .v (.bool false)) rfl rfl rfl rfl (.pickF rfl rfl) ?_
          refine RunT.ot0 (x := .v (.bool false)) rfl rfl rfl rfl (.moveX rfl) ?_
          refine RunT.xn rfl rfl rfl rfl rfl rfl ?_
          refine RunT.xn rfl rfl rfl rfl rfl rfl ?_
          refine RunT.xn rfl rfl rfl rfl rfl rfl ?_
          refine RunT.xn rfl rfl rfl rfl rfl rfl ?_
          refine RunT.ot0 (x := .v (.bool false)) rfl rfl rfl rfl (.pickF rfl rfl) ?_
          refine RunT.ot0 (x := .v (.bool false)) rfl rfl rfl rfl (.moveX rfl) ?_
          refine RunT.xn rfl rfl rfl rfl rfl rfl ?_
          refine RunT.xn rfl rfl rfl rfl rfl rfl ?_
          refine RunT.xn rfl rfl rfl rfl rfl rfl ?_
          refine RunT.xn rfl rfl rfl rfl rfl rfl ?_
          refine RunT.ot0 (x := .v (.bool false)) rfl rfl rfl rfl (.pickF rfl rfl) ?_
          refine RunT.ot0 (x := .v (.bool false)) rfl rfl rfl rfl (.moveX rfl) ?_
          refine RunT.xn rfl rfl rfl rfl rfl rfl ?_
          refine RunT.xn rfl rfl rfl rfl rfl rfl ?_
          refine RunT.xn rfl rfl rfl rfl rfl rfl ?_
          refine RunT.xn rfl rfl rfl rfl rfl rfl ?_
          refine RunT.ot0 (x := .v (.bool false)) rfl rfl rfl rfl (.pickF rfl rfl) ?_
          refine RunT.ot0 (x := .v (.bool false)) rfl rfl rfl rfl (.assignX rfl) ?_
          refine RunT.nil ?_
          obtain rfl := si H
          refine T.sub (sub_to (st' := ⟨[(0, .v (.bool false))], [], 8, []⟩) [] (by decide) rfl rfl (⟨⟨_, rfl, .one .v⟩, trivial⟩) (trivial)) ?_
          refine T.ret ?_
          exact RetOk.same [.v (.bool false)] ⟨rfl, trivial⟩ rfl rfl rfl
      · replace H := cf H g13
        refine RunT.xn rfl rfl rfl (bo g13) rfl rfl ?_
        refine RunT.xn rfl rfl rfl (bo g13) rfl rfl ?_
        refine RunT.xn rfl rfl rfl (bo g13) rfl rfl ?_
        refine RunT.xn rfl rfl rfl (bo g13) rfl rfl ?_
        refine RunT.ot0 (x := .v (.bool false)) rfl rfl rfl rfl (.pickF (bo g13) rfl) ?_
        refine RunT.ot0 (x := .v (.bool false)) rfl rfl rfl rfl (.moveX rfl) ?_
        refine RunT.xn rfl rfl rfl rfl rfl rfl ?_
        refine RunT.xn rfl rfl rfl rfl rfl rfl ?_
        refine RunT.xn rfl rfl rfl rfl rfl rfl ?_
        refine RunT.ot0 (x := .v (.bool false)) rfl rfl rfl rfl (.pickF rfl rfl) ?_
        refine RunT.ot0 (x := .v (.bool false)) rfl rfl rfl rfl (.moveX rfl) ?_
        refine RunT.xn rfl rfl rfl rfl rfl rfl ?_
        refine RunT.xn rfl rfl rfl rfl rfl rfl ?_
        refine RunT.xn rfl rfl rfl rfl rfl rfl ?_
        refine RunT.xn rfl rfl rfl rfl rfl rfl ?_
        refine RunT.ot0 (x := .v (.bool false)) rfl rfl rfl rfl (.pickF rfl rfl) ?_
        refine RunT.ot0 (x := .v (.bool false)) rfl rfl rfl rfl (.moveX rfl) ?_
        refine RunT.xn rfl rfl rfl rfl rfl rfl ?_
        refine RunT.xn rfl rfl rfl rfl rfl rfl ?_
        refine RunT.xn rfl rfl rfl rfl rfl rfl ?_
        refine RunT.ot0 (x := .v (.bool false)) rfl rfl rfl rfl (.pickF rfl rfl) ?_
        refine RunT.ot0 (x := .v (.bool false)) rfl rfl rfl rfl (.moveX rfl) ?_
        refine RunT.xn rfl rfl rfl rfl rfl rfl ?_
        refine RunT.xn rfl rfl rfl rfl rfl rfl ?_
        refine RunT.xn rfl rfl rfl rfl rfl rfl ?_
        refine RunT.xn rfl rfl rfl rfl rfl rfl ?_
        refine RunT.ot0 (x := .v (.bool false)) rfl rfl rfl rfl (.pickF rfl rfl) ?_
        refine RunT.ot0 (x := .v (.bool false)) rfl rfl rfl rfl (.moveX rfl) ?_
        refine RunT.xn rfl rfl rfl rfl rfl rfl ?_
        refine RunT.xn rfl rfl rfl rfl rfl rfl ?_
        refine RunT.xn rfl rfl rfl rfl rfl rfl ?_
        refine RunT.xn rfl rfl rfl rfl rfl rfl ?_
        refine RunT.ot0 (x := .v (.bool false)) rfl rfl rfl rfl (.pickF rfl rfl) ?_
        refine RunT.ot0 (x := .v (.bool false)) rfl rfl rfl rfl (.moveX rfl) ?_
        refine RunT.xn rfl rfl rfl rfl rfl rfl ?_
        refine RunT.xn rfl rfl rfl rfl rfl rfl ?_
        refine RunT.xn rfl rfl rfl rfl rfl rfl ?_
        refine RunT.xn rfl rfl rfl rfl rfl rfl ?_
        refine RunT.ot0 (x := .v (.bool false)) rfl rfl rfl rfl (.pickF rfl rfl) ?_
        refine RunT.ot0 (x := .v (.bool false)) rfl rfl rfl rfl (.moveX rfl) ?_
        refine RunT.xn rfl rfl rfl rfl rfl rfl ?_
        refine RunT.xn rfl rfl rfl rfl rfl rfl ?_
        refine RunT.xn rfl rfl rfl rfl rfl rfl ?_
        refine RunT.xn rfl rfl rfl rfl rfl rfl ?_
        refine RunT.ot0 (x := .v (.bool false)) rfl rfl rfl rfl (.pickF rfl rfl) ?_
        refine RunT.ot0 (x := .v (.bool false)) rfl rfl rfl rfl (.assignX rfl) ?_
        refine RunT.nil ?_
        obtain rfl := si H
        refine T.sub (sub_to (st' := ⟨[(0, .v (.bool false))], [], 8, []⟩) [] (by decide) rfl rfl (⟨⟨_, rfl, .one .v⟩, trivial⟩) (trivial)) ?_
        refine T.ret ?_
        exact RetOk.same [.v (.bool false)] ⟨rfl, trivial⟩ rfl rfl rfl
    · replace H := cf H g10
      refine RunT.xn rfl rfl rfl (bo g10) rfl rfl ?_
      refine RunT.xn rfl rfl rfl (bo g10) rfl rfl ?_
      refine RunT.xn rfl rfl rfl (bo g10) rfl rfl ?_
      refine RunT.ot0 (x := .v (.bool false)) rfl rfl rfl rfl (.pickF (bo g10) rfl) ?_
      refine RunT.ot0 (x := .v (.bool false)) rfl rfl rfl rfl (.moveX rfl) ?_
      refine RunT.xn rfl rfl rfl rfl rfl rfl ?_
      refine RunT.xn rfl rfl rfl rfl rfl rfl ?_
      refine RunT.xn rfl rfl rfl rfl rfl rfl ?_
      refine RunT.xn rfl rfl rfl rfl rfl rfl ?_
      refine RunT.ot0 (x := .v (.bool false)) rfl rfl rfl rfl (.pickF rfl rfl) ?_
      refine RunT.ot0 (x := .v (.bool false)) rfl rfl rfl rfl (.moveX rfl) ?_
      refine RunT.xn rfl rfl rfl rfl rfl rfl ?_
      refine RunT.xn rfl rfl rfl rfl rfl rfl ?_
      refine RunT.xn rfl rfl rfl rfl rfl rfl ?_
      refine RunT.ot0 (x := .v (.bool false)) rfl rfl rfl rfl (.pickF rfl rfl) ?_
      refine RunT.ot0 (x := .v (.bool false)) rfl rfl rfl rfl (.moveX rfl) ?_
      refine RunT.xn rfl rfl rfl rfl rfl rfl ?_
      refine RunT.xn rfl rfl rfl rfl rfl rfl ?_
      refine RunT.xn rfl rfl rfl rfl rfl rfl ?_
      refine RunT.xn rfl rfl rfl rfl rfl rfl ?_
      refine RunT.ot0 (x := .v (.bool false)) rfl rfl rfl rfl (.pickF rfl rfl) ?_
      refine RunT.ot0 (x := .v (.bool false)) rfl rfl rfl rfl (.moveX rfl) ?_
      refine RunT.xn rfl rfl rfl rfl rfl rfl ?_
      refine RunT.xn rfl rfl rfl rfl rfl rfl ?_
      refine RunT.xn rfl rfl rfl rfl rfl rfl ?_
      refine RunT.ot0 (x := .v (.bool false)) rfl rfl rfl rfl (.pickF rfl rfl) ?_
      refine RunT.ot0 (x := .v (.bool false)) rfl rfl rfl rfl (.moveX rfl) ?_
      refine RunT.xn rfl rfl rfl rfl rfl rfl ?_
      refine RunT.xn rfl rfl rfl rfl rfl rfl ?_
      refine RunT.xn rfl rfl rfl rfl rfl rfl ?_
      refine RunT.xn rfl rfl rfl rfl rfl rfl ?_
      refine RunT.ot0 (x := .v (.bool false)) rfl rfl rfl rfl (.pickF rfl rfl) ?_
      refine RunT.ot0 (x := .v (.bool false)) rfl rfl rfl rfl (.moveX rfl) ?_
      refine RunT.xn rfl rfl rfl rfl rfl rfl ?_
      refine RunT.xn rfl rfl rfl rfl rfl rfl ?_
      refine RunT.xn rfl rfl rfl rfl rfl rfl ?_
      refine RunT.xn rfl rfl rfl rfl rfl rfl ?_
      refine RunT.ot0 (x := .v (.bool false)) rfl rfl rfl rfl (.pickF rfl rfl) ?_
      refine RunT.ot0 (x := .v (.bool false)) rfl rfl rfl rfl (.moveX rfl) ?_
      refine RunT.xn rfl rfl rfl rfl rfl rfl ?_
      refine RunT.xn rfl rfl rfl rfl rfl rfl ?_
      refine RunT.xn rfl rfl rfl rfl rfl rfl ?_
      refine RunT.xn rfl rfl rfl rfl rfl rfl ?_
      refine RunT.ot0 (x := .v (.bool false)) rfl rfl rfl rfl (.pickF rfl rfl) ?_
      refine RunT.ot0 (x := .v (.bool false)) rfl rfl rfl rfl (.moveX rfl) ?_
      refine RunT.xn rfl rfl rfl rfl rfl rfl ?_
      refine RunT.xn rfl rfl rfl rfl rfl rfl ?_
      refine RunT.xn rfl rfl rfl rfl rfl rfl ?_
      refine RunT.xn rfl rfl rfl rfl rfl rfl ?_
      refine RunT.ot0 (x := .v (.bool false)) rfl rfl rfl rfl (.pickF rfl rfl) ?_
      refine RunT.ot0 (x := .v (.bool false)) rfl rfl rfl rfl (.assignX rfl) ?_
      refine RunT.nil ?_
      obtain rfl := si H
      refine T.sub (sub_to (st' := ⟨[(0, .v (.bool false))], [], 8, []⟩) [] (by decide) rfl rfl (⟨⟨_, rfl, .one .v⟩, trivial⟩) (trivial)) ?_
      refine T.ret ?_
      exact RetOk.same [.v (.bool false)] ⟨rfl, trivial⟩ rfl rfl rfl
  · replace H := cf H g7
    refine RunT.xn rfl rfl rfl (bo g7) rfl rfl ?_
    refine RunT.xn rfl rfl rfl (bo g7) rfl rfl ?_
    refine RunT.xn rfl rfl rfl (bo g7) rfl rfl ?_
    refine RunT.xn rfl rfl rfl (bo g7) rfl rfl ?_
    refine RunT.ot0 (x := .v (.bool false)) rfl rfl rfl rfl (.pickF (bo g7) rfl) ?_
    refine RunT.ot0 (x := .v (.bool false)) rfl rfl rfl rfl (.moveX rfl) ?_
    refine RunT.xn rfl rfl rfl rfl rfl rfl ?_
    refine RunT.xn rfl rfl rfl rfl rfl rfl ?_
    refine RunT.xn rfl rfl rfl rfl rfl rfl ?_
    refine RunT.ot0 (x := .v (.bool false)) rfl rfl rfl rfl (.pickF rfl rfl) ?_
    refine RunT.ot0 (x := .v (.bool false)) rfl rfl rfl rfl (.moveX rfl) ?_
    refine RunT.xn rfl rfl rfl rfl rfl rfl ?_
    refine RunT.xn rfl rfl rfl rfl rfl rfl ?_
    refine RunT.xn rfl rfl rfl rfl rfl rfl ?_
    refine RunT.xn rfl rfl rfl rfl rfl rfl ?_
    refine RunT.ot0 (x := .v (.bool false)) rfl rfl rfl rfl (.pickF rfl rfl) ?_
    refine RunT.ot0 (x := .v (.bool false)) rfl rfl rfl rfl (.moveX rfl) ?_
    refine RunT.xn rfl rfl rfl rfl rfl rfl ?_
    refine RunT.xn rfl rfl rfl rfl rfl rfl ?_
    refine RunT.xn rfl rfl rfl rfl rfl rfl ?_
    refine RunT.ot0 (x := .v (.bool false)) rfl rfl rfl rfl (.pickF rfl rfl) ?_
    refine RunT.ot0 (x := .v (.bool false)) rfl rfl rfl rfl (.moveX rfl) ?_
    refine RunT.xn rfl rfl rfl rfl rfl rfl ?_
    refine RunT.xn rfl rfl rfl rfl rfl rfl ?_
    refine RunT.xn rfl rfl rfl rfl rfl rfl ?_
    refine RunT.xn rfl rfl rfl rfl rfl rfl ?_
    refine RunT.ot0 (x := .v (.bool false)) rfl rfl rfl rfl (.pickF rfl rfl) ?_
    refine RunT.ot0 (x := .v (.bool false)) rfl rfl rfl rfl (.moveX rfl) ?_
    refine RunT.xn rfl rfl rfl rfl rfl rfl ?_
    refine RunT.xn rfl rfl rfl rfl rfl rfl ?_
    refine RunT.xn rfl rfl rfl rfl rfl rfl ?_
    refine RunT.ot0 (x := .v (.bool false)) rfl rfl rfl rfl (.pickF rfl rfl) ?_
    refine RunT.ot0 (x := .v (.bool false)) rfl rfl rfl rfl (.moveX rfl) ?_
    refine RunT.xn rfl rfl rfl rfl rfl rfl ?_
    refine RunT.xn rfl rfl rfl rfl rfl rfl ?_
    refine RunT.xn rfl rfl rfl rfl rfl rfl ?_
    refine RunT.xn rfl rfl rfl rfl rfl rfl ?_
    refine RunT.ot0 (x := .v (.bool false)) rfl rfl rfl rfl (.pickF rfl rfl) ?_
    refine RunT.ot0 (x := .v (.bool false)) rfl rfl rfl rfl (.moveX rfl) ?_
    refine RunT.xn rfl rfl rfl rfl rfl rfl ?_
    refine RunT.xn rfl rfl rfl rfl rfl rfl ?_
    refine RunT.xn rfl rfl rfl rfl rfl rfl ?_
    refine RunT.xn rfl rfl rfl rfl rfl rfl ?_
    refine RunT.ot0 (x := .v (.bool false)) rfl rfl rfl rfl (.pickF rfl rfl) ?_
    refine RunT.ot0 (x := .v (.bool false)) rfl rfl rfl rfl (.moveX rfl) ?_
    refine RunT.xn rfl rfl rfl rfl rfl rfl ?_
    refine RunT.xn rfl rfl rfl rfl rfl rfl ?_
    refine RunT.xn rfl rfl rfl rfl rfl rfl ?_
    refine RunT.xn rfl rfl rfl rfl rfl rfl ?_
    refine RunT.ot0 (x := .v (.bool false)) rfl rfl rfl rfl (.pickF rfl rfl) ?_
    refine RunT.ot0 (x := .v (.bool false)) rfl rfl rfl rfl (.moveX rfl) ?_
    refine RunT.xn rfl rfl rfl rfl rfl rfl ?_
    refine RunT.xn rfl rfl rfl rfl rfl rfl ?_
    refine RunT.xn rfl rfl rfl rfl rfl rfl ?_
    refine RunT.xn rfl rfl rfl rfl rfl rfl ?_
    refine RunT.ot0 (x := .v (.bool false)) rfl rfl rfl rfl (.pickF rfl rfl) ?_
    refine RunT.ot0 (x := .v (.bool false)) rfl rfl rfl rfl (.assignX rfl) ?_
    refine RunT.nil ?_
    obtain rfl := si H
    refine T.sub (sub_to (st' := ⟨[(0, .v (.bool false))], [], 8, []⟩) [] (by decide) rfl rfl (⟨⟨_, rfl, .one .v⟩, trivial⟩) (trivial)) ?_
    refine T.ret ?_
    exact RetOk.same [.v (.bool false)] ⟨rfl, trivial⟩ rfl rfl rfl
set_option maxHeartbeats 4000000 in
theorem law8_KillParts_pc (al : Bool) (k : Nat) (a0 : (List Int)) (a1 : (List Int)) (o : Bool) (H : law8_KillParts k a0 a1 = some o) : PC Try.prog al 13 [.lst (List.map eI a0), .lst (List.map eI a1)] (.v (.bool o)) := by
  unfold law8_KillParts at H
  refine PC.of_T Try.func13 rfl rfl (n := 144) rfl rfl (.inr rfl) ?_
  intro base B w0
  refine T.st (st' := ⟨[(0, .lst (List.map eI a0)), (1, .lst (List.map eI a1))], [], 0, []⟩) rfl ?_
  refine T.seq ?_
  refine T.region ?_
  refine RunT.ot0 (x := .v (.bool false)) rfl rfl rfl rfl (.assignX rfl) ?_
  refine RunT.nil ?_
  refine T.seq ?_
  refine T.region ?_
  refine RunT.ot0 (x := .lst (List.map eI a0)) rfl rfl rfl rfl (.moveX rfl) ?_
  obtain ⟨r1, h2, H⟩ := bs H
  refine RunT.ot3 (x := .agg [.own 0 0 ((List.map eSeat r1.Seats).length), .v (.int .i64 r1.Gap), .v (.int .i64 r1.Radius), .own 1 0 ((List.map eI r1.Kills).length), .own 2 0 ((List.map ePole r1.Poles).length)]) (p0 := (0, some (.arr false 4 (List.map eSeat r1.Seats)))) (p1 := (1, some (.arr false 1 (List.map eI r1.Kills)))) (p2 := (2, some (.arr false 3 (List.map ePole r1.Poles)))) (n' := 8) rfl rfl rfl rfl (.callp (law3_Make_pc false k a0 30 r1 h2) rfl ⟨(.one .lst), (.one .v), trivial⟩ rfl rfl rfl) rfl ?_
  refine RunT.ot1 (x := .ptr 8 0) (p0 := (8, some (.box [.v (.slice none 0 0), .v (.int .i64 0), .v (.int .i64 0), .v (.slice none 0 0), .v (.slice none 0 0)]))) (n' := 16) rfl rfl rfl rfl (.allocX in26.zero rfl rfl) rfl ?_
  refine RunT.on1 (x := .junk) (p0 := (8, some (.box [.own 0 0 ((List.map eSeat r1.Seats).length), .v (.int .i64 r1.Gap), .v (.int .i64 r1.Radius), .own 1 0 ((List.map eI r1.Kills).length), .own 2 0 ((List.map ePole r1.Poles).length)]))) (n' := 24) rfl rfl rfl (.storePX ty26 rfl rfl rfl rfl rfl rfl rfl) rfl ?_
  refine RunT.nil ?_
  refine T.seq ?_
  refine T.seq ?_
  refine T.region ?_
  refine RunT.ot0 (x := .v (.int .i64 0)) rfl rfl rfl rfl (.assignX rfl) ?_
  refine RunT.nil ?_
  obtain ⟨o23, E24, HO25⟩ := bs H
  refine T.cutE (⟨[(5, .ptr 0 0)], [(0, some (.box [.own 1 0 r1.Seats.length, .v (.int .i64 r1.Gap), .v (.int .i64 r1.Radius), .own 2 0 r1.Kills.length, .own 3 0 o23.length])), (1, some (.arr false 4 (List.map eSeat r1.Seats))), (2, some (.arr false 1 (List.map eI r1.Kills))), (3, some (.arr false 3 (List.map ePole o23)))], 8, []⟩) ?_ ?_
  · have H := E24
    refine T.block ?_
    refine T.loopS (fun n s => ∃ (v26 : (List Pole)) (v27 : Int), law8_KillParts_l0 k a1 n v26 v27 = some o23 ∧ s = ⟨[(1, .lst (List.map eI a1)), (5, .ptr 0 0), (6, .v (.int .i64 v27))], [(0, some (.box [.own 1 0 r1.Seats.length, .v (.int .i64 r1.Gap), .v (.int .i64 r1.Radius), .own 2 0 r1.Kills.length, .own 3 0 v26.length])), (1, some (.arr false 4 (List.map eSeat r1.Seats))), (2, some (.arr false 1 (List.map eI r1.Kills))), (3, some (.arr false 3 (List.map ePole v26)))], 8, []⟩) k ⟨_, ⟨r1.Poles, 0, H, rfl⟩, sub_to [some 8, some 0, some 1, some 2] (by decide) rfl rfl (⟨⟨_, rfl, .one .lst⟩, ⟨⟨_, rfl, .one (.ptr rfl)⟩, ⟨⟨_, rfl, .one .v⟩, trivial⟩⟩⟩) (⟨⟨rfl, .inl ⟨_, _, rfl, rfl, .box ⟨(.own' rfl (List.length_map _)), .v, .v, (.own' rfl (List.length_map _)), (.own' rfl (List.length_map _)), trivial⟩⟩⟩, ⟨⟨rfl, .inl ⟨_, _, rfl, rfl, .arr rfl⟩⟩, ⟨⟨rfl, .inl ⟨_, _, rfl, rfl, .arr rfl⟩⟩, ⟨⟨rfl, .inl ⟨_, _, rfl, rfl, .arr rfl⟩⟩, trivial⟩⟩⟩⟩)⟩ ?_
    rintro n s ⟨v26, v27, H, rfl⟩
    rcases n with _ | n
    · cases (show none = some _ from H)
    rw [law8_KillParts_l0] at H
    refine T.seq ?_
    refine T.seq ?_
    refine T.region ?_
    refine RunT.ot0 (x := .v (.int .i64 v27)) rfl rfl rfl rfl (.moveX rfl) ?_
    refine RunT.ot0 (x := .v (.int .i64 (wr (v27 + 2)))) rfl rfl rfl rfl (.bin rfl rfl (fun w => b_addw w) rfl) ?_
    refine RunT.ot0 (x := .lst (List.map eI a1)) rfl rfl rfl rfl (.moveX rfl) ?_
    refine RunT.ot0 (x := .v (.int .i64 (a1.length : Int))) rfl rfl rfl rfl (.lenLm Try.underlying23 rfl rfl) ?_
    refine RunT.ot0 (x := .v (.bool (decide ((wr (v27 + 2)) < (a1.length : Int))))) rfl rfl rfl rfl (.bin rfl rfl (fun w => b_lss w) rfl) ?_
    refine RunT.ot0 (x := .v (.bool (decide ((wr (v27 + 2)) < (a1.length : Int))))) rfl rfl rfl rfl (.moveX rfl) ?_
    refine RunT.cases (t := 20) (c := decide ((wr (v27 + 2)) < (a1.length : Int))) rfl (fun g28 => ?_) (fun g28 => ?_)
    · replace H := ct H g28
      refine RunT.gt0 (x := .v (.int .i64 v27)) rfl rfl rfl (bo g28) rfl rfl (.moveX rfl) ?_
      refine RunT.gt0 (x := .v (.bool (decide (v27 < 15)))) rfl rfl rfl (bo g28) rfl rfl (.bin rfl rfl (fun w => b_lss w) rfl) ?_
      refine RunT.ot0 (x := .v (.bool (decide (v27 < 15)))) rfl rfl rfl rfl (.pickT (bo g28) rfl) ?_
      refine RunT.nil ?_
      refine T.cond2 (t := decide (v27 < 15)) rfl (fun c29 => ?_) (fun c29 => ?_)
      · replace H := ct H c29
        refine T.skip ?_
        refine T.seq ?_
        refine T.block ?_
        refine T.draw (wr := [(28, [3]), (30, [0])]) mixed rfl rfl ?_ rfl
        refine RunD.ot0 (x := .ptr 0 4) rfl rfl rfl rfl (.fieldPX fl26_4 rfl rfl) rfl ?_
        refine RunD.ot0 (x := .own 3 0 v26.length) rfl rfl rfl rfl (.loadP ty24 rfl rfl rfl) rfl ?_
        refine RunD.ot0 (x := .lst (List.map eI a1)) rfl rfl rfl rfl (.moveX rfl) rfl ?_
        refine RunD.ot0 (x := .v (.int .i64 v27)) rfl rfl rfl rfl (.moveX rfl) rfl ?_
        obtain ⟨y37, h38, H⟩ := bs H
        refine RunD.ot0 (x := .rptr [.v (.int .i64 y37)]) rfl rfl rfl rfl (.idxLX h38 enc_I sl23 rfl rfl rfl) rfl ?_
        refine RunD.ot0 (x := .v (.int .i64 y37)) rfl rfl rfl rfl (.loadR ty3 rfl rfl) rfl ?_
        refine RunD.ot0 (x := .v (.int .u64 (IntKind.u64.wrap y37))) rfl rfl rfl rfl (.conv rfl (fun w => c_int w ⟨_, Try.underlying3⟩ Try.underlying41) rfl) rfl ?_
        refine RunD.ot0 (x := .v (.int .u64 ((IntKind.u64.wrap y37).tmod 200))) rfl rfl rfl rfl (.bin rfl rfl (fun w => b_rem w (by decide)) rfl) rfl ?_
        refine RunD.ot0 (x := .v (.int .i64 (wr ((IntKind.u64.wrap y37).tmod 200)))) rfl rfl rfl rfl (.conv rfl (fun w => c_intw w ⟨_, Try.underlying41⟩ Try.underlying3) rfl) rfl ?_
        refine RunD.ot0 (x := .lst (List.map eI a1)) rfl rfl rfl rfl (.moveX rfl) rfl ?_
        refine RunD.ot0 (x := .v (.int .i64 v27)) rfl rfl rfl rfl (.moveX rfl) rfl ?_
        refine RunD.ot0 (x := .v (.int .i64 (wr (v27 + 1)))) rfl rfl rfl rfl (.bin rfl rfl (fun w => b_addw w) rfl) rfl ?_
        obtain ⟨y39, h40, H⟩ := bs H
        refine RunD.ot0 (x := .rptr [.v (.int .i64 y39)]) rfl rfl rfl rfl (.idxLX h40 enc_I sl23 rfl rfl rfl) rfl ?_
        refine RunD.ot0 (x := .v (.int .i64 y39)) rfl rfl rfl rfl (.loadR ty3 rfl rfl) rfl ?_
        refine RunD.ot0 (x := .v (.int .u64 (IntKind.u64.wrap y39))) rfl rfl rfl rfl (.conv rfl (fun w => c_int w ⟨_, Try.underlying3⟩ Try.underlying41) rfl) rfl ?_
        refine RunD.ot0 (x := .v (.int .u64 ((IntKind.u64.wrap y39).tmod 60))) rfl rfl rfl rfl (.bin rfl rfl (fun w => b_rem w (by decide)) rfl) rfl ?_
        refine RunD.ot0 (x := .v (.int .i64 (wr ((IntKind.u64.wrap y39).tmod 60)))) rfl rfl rfl rfl (.conv rfl (fun w => c_intw w ⟨_, Try.underlying41⟩ Try.underlying3) rfl) rfl ?_
        refine RunD.ot0 (x := .lst (List.map eI a1)) rfl rfl rfl rfl (.moveX rfl) rfl ?_
        refine RunD.ot0 (x := .v (.int .i64 v27)) rfl rfl rfl rfl (.moveX rfl) rfl ?_
        refine RunD.ot0 (x := .v (.int .i64 (wr (v27 + 2)))) rfl rfl rfl rfl (.bin rfl rfl (fun w => b_addw w) rfl) rfl ?_
        obtain ⟨y41, h42, H⟩ := bs H
        refine RunD.ot0 (x := .rptr [.v (.int .i64 y41)]) rfl rfl rfl rfl (.idxLX h42 enc_I sl23 rfl rfl rfl) rfl ?_
        refine RunD.ot0 (x := .v (.int .i64 y41)) rfl rfl rfl rfl (.loadR ty3 rfl rfl) rfl ?_
        refine RunD.ot0 (x := .v (.int .u64 (IntKind.u64.wrap y41))) rfl rfl rfl rfl (.conv rfl (fun w => c_int w ⟨_, Try.underlying3⟩ Try.underlying41) rfl) rfl ?_
        refine RunD.ot0 (x := .v (.int .u64 ((IntKind.u64.wrap y41).tmod 40))) rfl rfl rfl rfl (.bin rfl rfl (fun w => b_rem w (by decide)) rfl) rfl ?_
        refine RunD.ot0 (x := .v (.int .i64 (wr ((IntKind.u64.wrap y41).tmod 40)))) rfl rfl rfl rfl (.conv rfl (fun w => c_intw w ⟨_, Try.underlying41⟩ Try.underlying3) rfl) rfl ?_
        refine RunD.ot0 (x := .v (.int .i64 (wr (1 + (wr ((IntKind.u64.wrap y41).tmod 40)))))) rfl rfl rfl rfl (.bin rfl rfl (fun w => b_addw w) rfl) rfl ?_
        refine RunD.ot0 (x := .agg [.v (.int .i64 (wr ((IntKind.u64.wrap y37).tmod 200))), .v (.int .i64 (wr ((IntKind.u64.wrap y39).tmod 60))), .v (.int .i64 (wr (1 + (wr ((IntKind.u64.wrap y41).tmod 40)))))]) rfl rfl rfl rfl (.bu bu60 rfl) rfl ?_
        refine RunD.ot1 (x := .own 224 0 (([Pole.mk (wr ((IntKind.u64.wrap y37).tmod 200)) (wr ((IntKind.u64.wrap y39).tmod 60)) (wr (1 + (wr ((IntKind.u64.wrap y41).tmod 40))))]).length)) (p0 := (224, some (.arr false 3 (List.map ePole [Pole.mk (wr ((IntKind.u64.wrap y37).tmod 200)) (wr ((IntKind.u64.wrap y39).tmod 60)) (wr (1 + (wr ((IntKind.u64.wrap y41).tmod 40))))])))) rfl rfl rfl rfl (.bslicem (d := false) (l := [Pole.mk (wr ((IntKind.u64.wrap y37).tmod 200)) (wr ((IntKind.u64.wrap y39).tmod 60)) (wr (1 + (wr ((IntKind.u64.wrap y41).tmod 40))))]) (f := ePole) sl24 rfl rfl rfl enc_Pole rfl) rfl ?_
        obtain ⟨h43, H⟩ := gs H
        refine RunD.ot2 (x := .own 232 0 ((v26 ++ [Pole.mk (wr ((IntKind.u64.wrap y37).tmod 200)) (wr ((IntKind.u64.wrap y39).tmod 60)) (wr (1 + (wr ((IntKind.u64.wrap y41).tmod 40))))]).length)) (p0 := (232, some (.arr false 3 (List.map ePole (v26 ++ [Pole.mk (wr ((IntKind.u64.wrap y37).tmod 200)) (wr ((IntKind.u64.wrap y39).tmod 60)) (wr (1 + (wr ((IntKind.u64.wrap y41).tmod 40))))]))))) (p1 := (3, none)) rfl rfl rfl rfl (.appOn (d := false) (l := v26) (m := [Pole.mk (wr ((IntKind.u64.wrap y37).tmod 200)) (wr ((IntKind.u64.wrap y39).tmod 60)) (wr (1 + (wr ((IntKind.u64.wrap y41).tmod 40))))]) (f := ePole) rfl sl24 rfl rfl rfl (.ownn Try.underlying24 rfl rfl (fun h => by cases h)) rfl h43) rfl ?_
        refine RunD.ot0 (x := .ptr 0 4) rfl rfl rfl rfl (.fieldPX fl26_4 rfl rfl) rfl ?_
        refine RunD.on1 (x := .junk) (p0 := (0, some (.box [.own 1 0 r1.Seats.length, .v (.int .i64 r1.Gap), .v (.int .i64 r1.Radius), .own 2 0 r1.Kills.length, .own 232 0 ((v26 ++ [Pole.mk (wr ((IntKind.u64.wrap y37).tmod 200)) (wr ((IntKind.u64.wrap y39).tmod 60)) (wr (1 + (wr ((IntKind.u64.wrap y41).tmod 40))))]).length)]))) rfl rfl rfl (.storePX ty24 rfl rfl rfl rfl rfl rfl rfl) rfl ?_
        refine RunD.nil (by kernel_rfl) ⟨rfl, rfl, ?_⟩
        refine T.sub (sub_pick [1, 5, 6] [0, 1, 2, 232] (st' := ⟨[(1, .lst (List.map eI a1)), (5, .ptr 0 0), (6, .v (.int .i64 v27))], [(0, some (.box [.own 1 0 r1.Seats.length, .v (.int .i64 r1.Gap), .v (.int .i64 r1.Radius), .own 2 0 r1.Kills.length, .own 232 0 ((v26 ++ [Pole.mk (wr ((IntKind.u64.wrap y37).tmod 200)) (wr ((IntKind.u64.wrap y39).tmod 60)) (wr (1 + (wr ((IntKind.u64.wrap y41).tmod 40))))]).length)])), (1, some (.arr false 4 (List.map eSeat r1.Seats))), (2, some (.arr false 1 (List.map eI r1.Kills))), (232, some (.arr false 3 (List.map ePole (v26 ++ [Pole.mk (wr ((IntKind.u64.wrap y37).tmod 200)) (wr ((IntKind.u64.wrap y39).tmod 60)) (wr (1 + (wr ((IntKind.u64.wrap y41).tmod 40))))]))))], 256, []⟩) rfl rfl rfl rfl rfl) ?_
        refine T.region ?_
        refine RunT.ot0 (x := .v (.int .i64 v27)) rfl rfl rfl rfl (.moveX rfl) ?_
        refine RunT.ot0 (x := .v (.int .i64 (wr (v27 + 3)))) rfl rfl rfl rfl (.bin rfl rfl (fun w => b_addw w) rfl) ?_
        refine RunT.ot0 (x := .v (.int .i64 (wr (v27 + 3)))) rfl rfl rfl rfl (.assignX rfl) ?_
        refine RunT.nil ?_
        exact ⟨n, Nat.lt_succ_self n, _, ⟨v26 ++ [Pole.mk (wr ((IntKind.u64.wrap y37).tmod 200)) (wr ((IntKind.u64.wrap y39).tmod 60)) (wr (1 + (wr ((IntKind.u64.wrap y41).tmod 40))))], wr (v27 + 3), H, rfl⟩, (sub_to [some 0, some 1, some 2, some 232] (by decide) rfl rfl (⟨⟨_, rfl, .one .lst⟩, ⟨⟨_, rfl, .one (.ptr rfl)⟩, ⟨⟨_, rfl, .one .v⟩, trivial⟩⟩⟩) (⟨⟨rfl, .inl ⟨_, _, rfl, rfl, .box ⟨(.own rfl), .v, .v, (.own rfl), (.own rfl), trivial⟩⟩⟩, ⟨⟨rfl, .inl ⟨_, _, rfl, rfl, .arr rfl⟩⟩, ⟨⟨rfl, .inl ⟨_, _, rfl, rfl, .arr rfl⟩⟩, ⟨⟨rfl, .inl ⟨_, _, rfl, rfl, .arr rfl⟩⟩, trivial⟩⟩⟩⟩))⟩
      · replace H := cf H c29
        refine T.exit ?_
        obtain rfl := si H
        exact (sub_to [some 0, some 1, some 2, some 3] (by decide) rfl rfl (⟨⟨_, rfl, .one (.ptr rfl)⟩, trivial⟩) (⟨⟨rfl, .inl ⟨_, _, rfl, rfl, .box ⟨(.own rfl), .v, .v, (.own rfl), (.own rfl), trivial⟩⟩⟩, ⟨⟨rfl, .inl ⟨_, _, rfl, rfl, .arr rfl⟩⟩, ⟨⟨rfl, .inl ⟨_, _, rfl, rfl, .arr rfl⟩⟩, ⟨⟨rfl, .inl ⟨_, _, rfl, rfl, .arr rfl⟩⟩, trivial⟩⟩⟩⟩))
    · replace H := cf H g28
      refine RunT.xn rfl rfl rfl (bo g28) rfl rfl ?_
      refine RunT.xn rfl rfl rfl (bo g28) rfl rfl ?_
      refine RunT.ot0 (x := .v (.bool false)) rfl rfl rfl rfl (.pickF (bo g28) rfl) ?_
      refine RunT.nil ?_
      refine T.condF rfl ?_
      refine T.exit ?_
      obtain rfl := si H
      exact (sub_to [some 0, some 1, some 2, some 3] (by decide) rfl rfl (⟨⟨_, rfl, .one (.ptr rfl)⟩, trivial⟩) (⟨⟨rfl, .inl ⟨_, _, rfl, rfl, .box ⟨(.own rfl), .v, .v, (.own rfl), (.own rfl), trivial⟩⟩⟩, ⟨⟨rfl, .inl ⟨_, _, rfl, rfl, .arr rfl⟩⟩, ⟨⟨rfl, .inl ⟨_, _, rfl, rfl, .arr rfl⟩⟩, ⟨⟨rfl, .inl ⟨_, _, rfl, rfl, .arr rfl⟩⟩, trivial⟩⟩⟩⟩))
  · intro s hS
    have H := HO25
    refine T.sub hS ?_
    refine T.seq ?_
    refine T.draw (wr := []) mixed rfl rfl ?_ rfl
    refine RunD.ot0 (x := .agg [.own 1 0 r1.Seats.length, .v (.int .i64 r1.Gap), .v (.int .i64 r1.Radius), .own 2 0 r1.Kills.length, .own 3 0 o23.length]) rfl rfl rfl rfl (.loadP ty26 rfl rfl rfl) rfl ?_
    obtain ⟨r48, h49, H⟩ := bs H
    refine RunD.ot0 (x := .lst (List.map eB r48)) rfl rfl rfl rfl (.callp (PC.frozen (kill_Usable_pc false k (Venue.mk r1.Seats r1.Gap r1.Radius r1.Kills o23) r48 h49)) rfl ⟨(.agg' ⟨(.all rfl (List.length_map _).symm), .v, .v, (.all rfl (List.length_map _).symm), (.all rfl (List.length_map _).symm), trivial⟩), trivial⟩ rfl rfl rfl) rfl ?_
    refine RunD.ot0 (x := .agg [.own 1 0 r1.Seats.length, .v (.int .i64 r1.Gap), .v (.int .i64 r1.Radius), .own 2 0 r1.Kills.length, .own 3 0 o23.length]) rfl rfl rfl rfl (.loadP ty26 rfl rfl rfl) rfl ?_
    obtain ⟨r50, h51, H⟩ := bs H
    refine RunD.ot0 (x := .lst (List.map eI r50)) rfl rfl rfl rfl (.callp (PC.frozen (kill_Killed_pc false k (Venue.mk r1.Seats r1.Gap r1.Radius r1.Kills o23) r50 h51)) rfl ⟨(.agg' ⟨(.all rfl (List.length_map _).symm), .v, .v, (.all rfl (List.length_map _).symm), (.all rfl (List.length_map _).symm), trivial⟩), trivial⟩ rfl rfl rfl) rfl ?_
    refine RunD.ot0 (x := .lst (List.map eB r48)) rfl rfl rfl rfl (.assignX rfl) rfl ?_
    refine RunD.ot0 (x := .lst (List.map eI r50)) rfl rfl rfl rfl (.assignX rfl) rfl ?_
    refine RunD.nil (by kernel_rfl) ⟨rfl, rfl, ?_⟩
    refine T.seq ?_
    refine T.seq ?_
    refine T.sub (sub_pick [5, 7, 8] [0, 1, 2, 3] (st' := ⟨[(5, .ptr 0 0), (7, .lst (List.map eB r48)), (8, .lst (List.map eI r50))], [(0, some (.box [.own 1 0 r1.Seats.length, .v (.int .i64 r1.Gap), .v (.int .i64 r1.Radius), .own 2 0 r1.Kills.length, .own 3 0 o23.length])), (1, some (.arr false 4 (List.map eSeat r1.Seats))), (2, some (.arr false 1 (List.map eI r1.Kills))), (3, some (.arr false 3 (List.map ePole o23)))], 56, []⟩) rfl rfl rfl rfl rfl) ?_
    refine T.region ?_
    refine RunT.ot0 (x := .lst (List.map eB r48)) rfl rfl rfl rfl (.moveX rfl) ?_
    refine RunT.ot0 (x := .v (.int .i64 (r48.length : Int))) rfl rfl rfl rfl (.lenLm Try.underlying43 rfl rfl) ?_
    refine RunT.ot0 (x := .ptr 0 0) rfl rfl rfl rfl (.fieldPX fl26_0 rfl rfl) ?_
    refine RunT.ot0 (x := .own 1 0 r1.Seats.length) rfl rfl rfl rfl (.loadP ty22 rfl rfl rfl) ?_
    refine RunT.ot0 (x := .v (.int .i64 (r1.Seats.length : Int))) rfl rfl rfl rfl (.lenON rfl Try.underlying22 rfl rfl) ?_
    refine RunT.ot0 (x := .v (.bool (!decide ((r48.length : Int) = (r1.Seats.length : Int))))) rfl rfl rfl rfl (.bin rfl rfl (fun w => b_neq w) rfl) ?_
    refine RunT.nil ?_
    refine T.cond2 (t := !decide ((r48.length : Int) = (r1.Seats.length : Int))) rfl (fun c52 => ?_) (fun c52 => ?_)
    · replace H := ct H c52
      refine T.seq ?_
      refine T.region ?_
      refine RunT.ot0 (x := .v (.bool false)) rfl rfl rfl rfl (.assignX rfl) ?_
      refine RunT.nil ?_
      obtain rfl := si H
      refine T.sub (sub_to (st' := ⟨[(4, .v (.bool false))], [], 8, []⟩) [] (by decide) rfl rfl (⟨⟨_, rfl, .one .v⟩, trivial⟩) (trivial)) ?_
      refine T.ret ?_
      exact RetOk.same [.v (.bool false)] ⟨rfl, trivial⟩ rfl rfl rfl
    · replace H := cf H c52
      refine T.skip ?_
      refine T.seq ?_
      refine T.region ?_
      refine RunT.ot0 (x := .v (.int .i64 0)) rfl rfl rfl rfl (.assignX rfl) ?_
      refine RunT.nil ?_
      refine T.seq ?_
      refine T.seq ?_
      refine T.region ?_
      refine RunT.ot0 (x := .v (.int .i64 0)) rfl rfl rfl rfl (.assignX rfl) ?_
      refine RunT.nil ?_
      obtain ⟨o155, E156, HO157⟩ := bs H
      refine T.cutPE (fun v158 => o155 = .go v158) (fun v158 => ⟨[(5, .ptr 0 0), (8, .lst (List.map eI r50)), (9, .v (.int .i64 v158))], [(0, some (.box [.own 1 0 r1.Seats.length, .v (.int .i64 r1.Gap), .v (.int .i64 r1.Radius), .own 2 0 r1.Kills.length, .own 3 0 o23.length])), (1, some (.arr false 4 (List.map eSeat r1.Seats))), (2, some (.arr false 1 (List.map eI r1.Kills))), (3, some (.arr false 3 (List.map ePole o23)))], 8, []⟩) ?_ ?_
      · have H := E156
        refine T.block ?_
        refine T.loopS (fun n s => ∃ (v159 : Int) (v160 : Int), law8_KillParts_l3 k o23 r1 r48 r50 n v159 v160 = some o155 ∧ s = ⟨[(5, .ptr 0 0), (7, .lst (List.map eB r48)), (8, .lst (List.map eI r50)), (9, .v (.int .i64 v159)), (10, .v (.int .i64 v160))], [(0, some (.box [.own 1 0 r1.Seats.length, .v (.int .i64 r1.Gap), .v (.int .i64 r1.Radius), .own 2 0 r1.Kills.length, .own 3 0 o23.length])), (1, some (.arr false 4 (List.map eSeat r1.Seats))), (2, some (.arr false 1 (List.map eI r1.Kills))), (3, some (.arr false 3 (List.map ePole o23)))], 8, []⟩) k ⟨_, ⟨0, 0, H, rfl⟩, sub_to [some 0, some 1, some 2, some 3] (by decide) rfl rfl (⟨⟨_, rfl, .one (.ptr rfl)⟩, ⟨⟨_, rfl, .one .lst⟩, ⟨⟨_, rfl, .one .lst⟩, ⟨⟨_, rfl, .one .v⟩, ⟨⟨_, rfl, .one .v⟩, trivial⟩⟩⟩⟩⟩) (⟨⟨rfl, .inl ⟨_, _, rfl, rfl, .box ⟨(.own rfl), .v, .v, (.own rfl), (.own rfl), trivial⟩⟩⟩, ⟨⟨rfl, .inl ⟨_, _, rfl, rfl, .arr rfl⟩⟩, ⟨⟨rfl, .inl ⟨_, _, rfl, rfl, .arr rfl⟩⟩, ⟨⟨rfl, .inl ⟨_, _, rfl, rfl, .arr rfl⟩⟩, trivial⟩⟩⟩⟩)⟩ ?_
        rintro n s ⟨v159, v160, H, rfl⟩
        rcases n with _ | n
        · cases (show none = some _ from H)
        rw [law8_KillParts_l3] at H
        refine T.seq ?_
        refine T.seq ?_
        refine T.region ?_
        refine RunT.ot0 (x := .v (.int .i64 v160)) rfl rfl rfl rfl (.moveX rfl) ?_
        refine RunT.ot0 (x := .lst (List.map eB r48)) rfl rfl rfl rfl (.moveX rfl) ?_
        refine RunT.ot0 (x := .v (.int .i64 (r48.length : Int))) rfl rfl rfl rfl (.lenLm Try.underlying43 rfl rfl) ?_
        refine RunT.ot0 (x := .v (.bool (decide (v160 < (r48.length : Int))))) rfl rfl rfl rfl (.bin rfl rfl (fun w => b_lss w) rfl) ?_
        refine RunT.nil ?_
        refine T.cond2 (t := decide (v160 < (r48.length : Int))) rfl (fun c161 => ?_) (fun c161 => ?_)
        · replace H := ct H c161
          refine T.skip ?_
          refine T.seq ?_
          refine T.block ?_
          refine T.seq ?_
          refine T.seq ?_
          refine T.region ?_
          refine RunT.ot0 (x := .lst (List.map eB r48)) rfl rfl rfl rfl (.moveX rfl) ?_
          refine RunT.ot0 (x := .v (.int .i64 v160)) rfl rfl rfl rfl (.moveX rfl) ?_
          obtain ⟨y162, h163, H⟩ := bs H
          refine RunT.ot0 (x := .rptr [.v (.bool y162)]) rfl rfl rfl rfl (.idxLX h163 enc_B sl43 rfl rfl rfl) ?_
          refine RunT.ot0 (x := .v (.bool y162)) rfl rfl rfl rfl (.loadR ty4 rfl rfl) ?_
          refine RunT.ot0 (x := .v (.bool (!y162))) rfl rfl rfl rfl (.un rfl (fun w => u_not w) rfl) ?_
          refine RunT.nil ?_
          obtain ⟨o169, E170, HO171⟩ := bs H
          refine T.cutPE (fun v172 => o169 = .go v172) (fun v172 => ⟨[(5, .ptr 0 0), (7, .lst (List.map eB r48)), (8, .lst (List.map eI r50)), (9, .v (.int .i64 v172)), (10, .v (.int .i64 v160))], [(0, some (.box [.own 1 0 r1.Seats.length, .v (.int .i64 r1.Gap), .v (.int .i64 r1.Radius), .own 2 0 r1.Kills.length, .own 3 0 o23.length])), (1, some (.arr false 4 (List.map eSeat r1.Seats))), (2, some (.arr false 1 (List.map eI r1.Kills))), (3, some (.arr false 3 (List.map ePole o23)))], 8, []⟩) ?_ ?_
          · have H := E170
            refine T.cond2 (t := !y162) rfl (fun c173 => ?_) (fun c173 => ?_)
            · replace H := ct H c173
              refine T.seq ?_
              refine T.seq ?_
              refine T.region ?_
              refine RunT.ot0 (x := .v (.int .i64 v159)) rfl rfl rfl rfl (.moveX rfl) ?_
              refine RunT.ot0 (x := .lst (List.map eI r50)) rfl rfl rfl rfl (.moveX rfl) ?_
              refine RunT.ot0 (x := .v (.int .i64 (r50.length : Int))) rfl rfl rfl rfl (.lenLm Try.underlying23 rfl rfl) ?_
              refine RunT.ot0 (x := .v (.bool (decide ((r50.length : Int) ≤ v159)))) rfl rfl rfl rfl (.bin rfl rfl (fun w => b_geq w) rfl) ?_
              refine RunT.ot0 (x := .v (.bool (decide ((r50.length : Int) ≤ v159)))) rfl rfl rfl rfl (.moveX rfl) ?_
              refine RunT.cases (t := 81) (c := decide ((r50.length : Int) ≤ v159)) rfl (fun g174 => ?_) (fun g174 => ?_)
              · replace H := ct H g174
                refine RunT.xn rfl rfl rfl (bo g174) rfl rfl ?_
                refine RunT.xn rfl rfl rfl (bo g174) rfl rfl ?_
                refine RunT.xn rfl rfl rfl (bo g174) rfl rfl ?_
                refine RunT.xn rfl rfl rfl (bo g174) rfl rfl ?_
                refine RunT.xn rfl rfl rfl (bo g174) rfl rfl ?_
                refine RunT.xn rfl rfl rfl (bo g174) rfl rfl ?_
                refine RunT.ot0 (x := .v (.bool true)) rfl rfl rfl rfl (.pickT (bo g174) rfl) ?_
                refine RunT.nil ?_
                refine T.condT rfl ?_
                refine T.seq ?_
                refine T.sub (sub_pick [] [] (st' := ⟨[], [], 8, []⟩) rfl rfl rfl rfl rfl) ?_
                refine T.region ?_
                refine RunT.ot0 (x := .v (.bool false)) rfl rfl rfl rfl (.assignX rfl) ?_
                refine RunT.nil ?_
                obtain rfl := si H
                have HX := exr HO171
                obtain rfl := si HX
                have HX := exr HO157
                obtain rfl := si HX
                refine T.sub (sub_to (st' := ⟨[(4, .v (.bool false))], [], 8, []⟩) [] (by decide) rfl rfl (⟨⟨_, rfl, .one .v⟩, trivial⟩) (trivial)) ?_
                refine T.ret ?_
                exact RetOk.same [.v (.bool false)] ⟨rfl, trivial⟩ rfl rfl rfl
              · replace H := cf H g174
                refine RunT.gt0 (x := .lst (List.map eI r50)) rfl rfl rfl (bo g174) rfl rfl (.moveX rfl) ?_
                refine RunT.gt0 (x := .v (.int .i64 v159)) rfl rfl rfl (bo g174) rfl rfl (.moveX rfl) ?_
                obtain ⟨y175, h176, H⟩ := bs H
                refine RunT.gt0 (x := .rptr [.v (.int .i64 y175)]) rfl rfl rfl (bo g174) rfl rfl (.idxLX h176 enc_I sl23 rfl rfl rfl) ?_
                refine RunT.gt0 (x := .v (.int .i64 y175)) rfl rfl rfl (bo g174) rfl rfl (.loadR ty3 rfl rfl) ?_
                refine RunT.gt0 (x := .v (.int .i64 v160)) rfl rfl rfl (bo g174) rfl rfl (.moveX rfl) ?_
                refine RunT.gt0 (x := .v (.bool (!decide (y175 = v160)))) rfl rfl rfl (bo g174) rfl rfl (.bin rfl rfl (fun w => b_neq w) rfl) ?_
                refine RunT.ot0 (x := .v (.bool (!decide (y175 = v160)))) rfl rfl rfl rfl (.pickF (bo g174) rfl) ?_
                refine RunT.nil ?_
                refine T.cond2 (t := !decide (y175 = v160)) rfl (fun c177 => ?_) (fun c177 => ?_)
                · replace H := ct H c177
                  refine T.seq ?_
                  refine T.region ?_
                  refine RunT.ot0 (x := .v (.bool false)) rfl rfl rfl rfl (.assignX rfl) ?_
                  refine RunT.nil ?_
                  obtain rfl := si H
                  have HX := exr HO171
                  obtain rfl := si HX
                  have HX := exr HO157
                  obtain rfl := si HX
                  refine T.sub (sub_to (st' := ⟨[(4, .v (.bool false))], [], 8, []⟩) [] (by decide) rfl rfl (⟨⟨_, rfl, .one .v⟩, trivial⟩) (trivial)) ?_
                  refine T.ret ?_
                  exact RetOk.same [.v (.bool false)] ⟨rfl, trivial⟩ rfl rfl rfl
                · replace H := cf H c177
                  refine T.skip ?_
                  refine T.region ?_
                  refine RunT.ot0 (x := .v (.int .i64 v159)) rfl rfl rfl rfl (.moveX rfl) ?_
                  refine RunT.ot0 (x := .v (.int .i64 (wr (v159 + 1)))) rfl rfl rfl rfl (.bin rfl rfl (fun w => b_addw w) rfl) ?_
                  refine RunT.ot0 (x := .v (.int .i64 (wr (v159 + 1)))) rfl rfl rfl rfl (.assignX rfl) ?_
                  refine RunT.nil ?_
                  obtain rfl := si H
                  exact ⟨_, rfl, (sub_to [some 0, some 1, some 2, some 3] (by decide) rfl rfl (⟨⟨_, rfl, .one (.ptr rfl)⟩, ⟨⟨_, rfl, .one .lst⟩, ⟨⟨_, rfl, .one .lst⟩, ⟨⟨_, rfl, .one .v⟩, ⟨⟨_, rfl, .one .v⟩, trivial⟩⟩⟩⟩⟩) (⟨⟨rfl, .inl ⟨_, _, rfl, rfl, .box ⟨(.own rfl), .v, .v, (.own rfl), (.own rfl), trivial⟩⟩⟩, ⟨⟨rfl, .inl ⟨_, _, rfl, rfl, .arr rfl⟩⟩, ⟨⟨rfl, .inl ⟨_, _, rfl, rfl, .arr rfl⟩⟩, ⟨⟨rfl, .inl ⟨_, _, rfl, rfl, .arr rfl⟩⟩, trivial⟩⟩⟩⟩))⟩
            · replace H := cf H c173
              refine T.skip ?_
              obtain rfl := si H
              exact ⟨_, rfl, (sub_to [some 0, some 1, some 2, some 3] (by decide) rfl rfl (⟨⟨_, rfl, .one (.ptr rfl)⟩, ⟨⟨_, rfl, .one .lst⟩, ⟨⟨_, rfl, .one .lst⟩, ⟨⟨_, rfl, .one .v⟩, ⟨⟨_, rfl, .one .v⟩, trivial⟩⟩⟩⟩⟩) (⟨⟨rfl, .inl ⟨_, _, rfl, rfl, .box ⟨(.own rfl), .v, .v, (.own rfl), (.own rfl), trivial⟩⟩⟩, ⟨⟨rfl, .inl ⟨_, _, rfl, rfl, .arr rfl⟩⟩, ⟨⟨rfl, .inl ⟨_, _, rfl, rfl, .arr rfl⟩⟩, ⟨⟨rfl, .inl ⟨_, _, rfl, rfl, .arr rfl⟩⟩, trivial⟩⟩⟩⟩))⟩
          · intro v172 s hR hS
            subst hR
            have H := exg HO171
            refine T.sub hS ?_
            refine T.seq ?_
            refine T.region ?_
            refine RunT.ot0 (x := .agg [.own 1 0 r1.Seats.length, .v (.int .i64 r1.Gap), .v (.int .i64 r1.Radius), .own 2 0 r1.Kills.length, .own 3 0 o23.length]) rfl rfl rfl rfl (.loadP ty26 rfl rfl rfl) ?_
            refine RunT.ot0 (x := .v (.int .i64 v160)) rfl rfl rfl rfl (.moveX rfl) ?_
            obtain ⟨r178, h179, H⟩ := bs H
            refine RunT.ot0 (x := .lst (List.map eI r178)) rfl rfl rfl rfl (.callp (PC.frozen (kill_By_pc false k (Venue.mk r1.Seats r1.Gap r1.Radius r1.Kills o23) v160 r178 h179)) rfl ⟨(.agg' ⟨(.all rfl (List.length_map _).symm), .v, .v, (.all rfl (List.length_map _).symm), (.all rfl (List.length_map _).symm), trivial⟩), (.one .v), trivial⟩ rfl rfl rfl) ?_
            refine RunT.ot0 (x := .lst (List.map eI r178)) rfl rfl rfl rfl (.assignX rfl) ?_
            refine RunT.nil ?_
            refine T.seq ?_
            refine T.seq ?_
            refine T.sub (sub_pick [5, 7, 8, 9, 10, 11] [0, 1, 2, 3] (st' := ⟨[(5, .ptr 0 0), (7, .lst (List.map eB r48)), (8, .lst (List.map eI r50)), (9, .v (.int .i64 v172)), (10, .v (.int .i64 v160)), (11, .lst (List.map eI r178))], [(0, some (.box [.own 1 0 r1.Seats.length, .v (.int .i64 r1.Gap), .v (.int .i64 r1.Radius), .own 2 0 r1.Kills.length, .own 3 0 o23.length])), (1, some (.arr false 4 (List.map eSeat r1.Seats))), (2, some (.arr false 1 (List.map eI r1.Kills))), (3, some (.arr false 3 (List.map ePole o23)))], 8, []⟩) rfl rfl rfl rfl rfl) ?_
            refine T.region ?_
            refine RunT.ot0 (x := .v (.int .i64 1)) rfl rfl rfl rfl (.assignX rfl) ?_
            refine RunT.nil ?_
            obtain ⟨o193, E194, HO195⟩ := bs H
            refine T.cutPE (fun v196 => o193 = .go v196) (fun v196 => ⟨[(5, .ptr 0 0), (7, .lst (List.map eB r48)), (8, .lst (List.map eI r50)), (9, .v (.int .i64 v172)), (10, .v (.int .i64 v160)), (11, .lst (List.map eI r178))], [(0, some (.box [.own 1 0 r1.Seats.length, .v (.int .i64 r1.Gap), .v (.int .i64 r1.Radius), .own 2 0 r1.Kills.length, .own 3 0 o23.length])), (1, some (.arr false 4 (List.map eSeat r1.Seats))), (2, some (.arr false 1 (List.map eI r1.Kills))), (3, some (.arr false 3 (List.map ePole o23)))], 8, []⟩) ?_ ?_
            · have H := E194
              refine T.block ?_
              refine T.loopS (fun n s => ∃ (v197 : Int), law8_KillParts_l4 k r178 n v197 = some o193 ∧ s = ⟨[(5, .ptr 0 0), (7, .lst (List.map eB r48)), (8, .lst (List.map eI r50)), (9, .v (.int .i64 v172)), (10, .v (.int .i64 v160)), (11, .lst (List.map eI r178)), (12, .v (.int .i64 v197))], [(0, some (.box [.own 1 0 r1.Seats.length, .v (.int .i64 r1.Gap), .v (.int .i64 r1.Radius), .own 2 0 r1.Kills.length, .own 3 0 o23.length])), (1, some (.arr false 4 (List.map eSeat r1.Seats))), (2, some (.arr false 1 (List.map eI r1.Kills))), (3, some (.arr false 3 (List.map ePole o23)))], 8, []⟩) k ⟨_, ⟨1, H, rfl⟩, sub_to [some 0, some 1, some 2, some 3] (by decide) rfl rfl (⟨⟨_, rfl, .one (.ptr rfl)⟩, ⟨⟨_, rfl, .one .lst⟩, ⟨⟨_, rfl, .one .lst⟩, ⟨⟨_, rfl, .one .v⟩, ⟨⟨_, rfl, .one .v⟩, ⟨⟨_, rfl, .one .lst⟩, ⟨⟨_, rfl, .one .v⟩, trivial⟩⟩⟩⟩⟩⟩⟩) (⟨⟨rfl, .inl ⟨_, _, rfl, rfl, .box ⟨(.own rfl), .v, .v, (.own rfl), (.own rfl), trivial⟩⟩⟩, ⟨⟨rfl, .inl ⟨_, _, rfl, rfl, .arr rfl⟩⟩, ⟨⟨rfl, .inl ⟨_, _, rfl, rfl, .arr rfl⟩⟩, ⟨⟨rfl, .inl ⟨_, _, rfl, rfl, .arr rfl⟩⟩, trivial⟩⟩⟩⟩)⟩ ?_
              rintro n s ⟨v197, H, rfl⟩
              rcases n with _ | n
              · cases (show none = some _ from H)
              rw [law8_KillParts_l4] at H
              refine T.seq ?_
              refine T.seq ?_
              refine T.region ?_
              refine RunT.ot0 (x := .v (.int .i64 v197)) rfl rfl rfl rfl (.moveX rfl) ?_
              refine RunT.ot0 (x := .lst (List.map eI r178)) rfl rfl rfl rfl (.moveX rfl) ?_
              refine RunT.ot0 (x := .v (.int .i64 (r178.length : Int))) rfl rfl rfl rfl (.lenLm Try.underlying23 rfl rfl) ?_
              refine RunT.ot0 (x := .v (.bool (decide (v197 < (r178.length : Int))))) rfl rfl rfl rfl (.bin rfl rfl (fun w => b_lss w) rfl) ?_
              refine RunT.nil ?_
              refine T.cond2 (t := decide (v197 < (r178.length : Int))) rfl (fun c198 => ?_) (fun c198 => ?_)
              · replace H := ct H c198
                refine T.skip ?_
                refine T.seq ?_
                refine T.block ?_
                refine T.seq ?_
                refine T.draw (wr := []) mixed rfl rfl ?_ rfl
                refine RunD.ot0 (x := .lst (List.map eI r178)) rfl rfl rfl rfl (.moveX rfl) rfl ?_
                refine RunD.ot0 (x := .v (.int .i64 v197)) rfl rfl rfl rfl (.moveX rfl) rfl ?_
                obtain ⟨y203, h204, H⟩ := bs H
                refine RunD.ot0 (x := .rptr [.v (.int .i64 y203)]) rfl rfl rfl rfl (.idxLX h204 enc_I sl23 rfl rfl rfl) rfl ?_
                refine RunD.ot0 (x := .v (.int .i64 y203)) rfl rfl rfl rfl (.loadR ty3 rfl rfl) rfl ?_
                refine RunD.ot0 (x := .lst (List.map eI r178)) rfl rfl rfl rfl (.moveX rfl) rfl ?_
                refine RunD.ot0 (x := .v (.int .i64 v197)) rfl rfl rfl rfl (.moveX rfl) rfl ?_
                refine RunD.ot0 (x := .v (.int .i64 (wr (v197 - 1)))) rfl rfl rfl rfl (.bin rfl rfl (fun w => b_subw w) rfl) rfl ?_
                obtain ⟨y205, h206, H⟩ := bs H
                refine RunD.ot0 (x := .rptr [.v (.int .i64 y205)]) rfl rfl rfl rfl (.idxLX h206 enc_I sl23 rfl rfl rfl) rfl ?_
                refine RunD.ot0 (x := .v (.int .i64 y205)) rfl rfl rfl rfl (.loadR ty3 rfl rfl) rfl ?_
                refine RunD.ot0 (x := .v (.bool (decide (y203 ≤ y205)))) rfl rfl rfl rfl (.bin rfl rfl (fun w => b_leq w) rfl) rfl ?_
                refine RunD.nil (by kernel_rfl) ⟨rfl, rfl, ?_⟩
                refine T.cond2 (t := decide (y203 ≤ y205)) rfl (fun c207 => ?_) (fun c207 => ?_)
                · replace H := ct H c207
                  refine T.seq ?_
                  refine T.sub (sub_pick [] [] (st' := ⟨[], [], 88, []⟩) rfl rfl rfl rfl rfl) ?_
                  refine T.region ?_
                  refine RunT.ot0 (x := .v (.bool false)) rfl rfl rfl rfl (.assignX rfl) ?_
                  refine RunT.nil ?_
                  obtain rfl := si H
                  have HX := exr HO195
                  obtain rfl := si HX
                  have HX := exr HO157
                  obtain rfl := si HX
                  refine T.sub (sub_to (st' := ⟨[(4, .v (.bool false))], [], 8, []⟩) [] (by decide) rfl rfl (⟨⟨_, rfl, .one .v⟩, trivial⟩) (trivial)) ?_
                  refine T.ret ?_
                  exact RetOk.same [.v (.bool false)] ⟨rfl, trivial⟩ rfl rfl rfl
                · replace H := cf H c207
                  refine T.skip ?_
                  refine T.region ?_
                  refine RunT.ot0 (x := .v (.int .i64 v197)) rfl rfl rfl rfl (.moveX rfl) ?_
                  refine RunT.ot0 (x := .v (.int .i64 (wr (v197 + 1)))) rfl rfl rfl rfl (.bin rfl rfl (fun w => b_addw w) rfl) ?_
                  refine RunT.ot0 (x := .v (.int .i64 (wr (v197 + 1)))) rfl rfl rfl rfl (.assignX rfl) ?_
                  refine RunT.nil ?_
                  exact ⟨n, Nat.lt_succ_self n, _, ⟨wr (v197 + 1), H, rfl⟩, (sub_to [some 0, some 1, some 2, some 3] (by decide) rfl rfl (⟨⟨_, rfl, .one (.ptr rfl)⟩, ⟨⟨_, rfl, .one .lst⟩, ⟨⟨_, rfl, .one .lst⟩, ⟨⟨_, rfl, .one .v⟩, ⟨⟨_, rfl, .one .v⟩, ⟨⟨_, rfl, .one .lst⟩, ⟨⟨_, rfl, .one .v⟩, trivial⟩⟩⟩⟩⟩⟩⟩) (⟨⟨rfl, .inl ⟨_, _, rfl, rfl, .box ⟨(.own rfl), .v, .v, (.own rfl), (.own rfl), trivial⟩⟩⟩, ⟨⟨rfl, .inl ⟨_, _, rfl, rfl, .arr rfl⟩⟩, ⟨⟨rfl, .inl ⟨_, _, rfl, rfl, .arr rfl⟩⟩, ⟨⟨rfl, .inl ⟨_, _, rfl, rfl, .arr rfl⟩⟩, trivial⟩⟩⟩⟩))⟩
              · replace H := cf H c198
                refine T.exit ?_
                obtain rfl := si H
                exact ⟨_, rfl, (sub_to [some 0, some 1, some 2, some 3] (by decide) rfl rfl (⟨⟨_, rfl, .one (.ptr rfl)⟩, ⟨⟨_, rfl, .one .lst⟩, ⟨⟨_, rfl, .one .lst⟩, ⟨⟨_, rfl, .one .v⟩, ⟨⟨_, rfl, .one .v⟩, ⟨⟨_, rfl, .one .lst⟩, trivial⟩⟩⟩⟩⟩⟩) (⟨⟨rfl, .inl ⟨_, _, rfl, rfl, .box ⟨(.own rfl), .v, .v, (.own rfl), (.own rfl), trivial⟩⟩⟩, ⟨⟨rfl, .inl ⟨_, _, rfl, rfl, .arr rfl⟩⟩, ⟨⟨rfl, .inl ⟨_, _, rfl, rfl, .arr rfl⟩⟩, ⟨⟨rfl, .inl ⟨_, _, rfl, rfl, .arr rfl⟩⟩, trivial⟩⟩⟩⟩))⟩
            · intro v196 s hR hS
              subst hR
              have H := exg HO195
              refine T.sub hS ?_
              refine T.seq ?_
              refine T.draw (wr := []) mixed rfl rfl ?_ rfl
              refine RunD.ot0 (x := .lst (List.map eI r178)) rfl rfl rfl rfl (.moveX rfl) rfl ?_
              refine RunD.ot0 (x := .v (.int .i64 (r178.length : Int))) rfl rfl rfl rfl (.lenLm Try.underlying23 rfl rfl) rfl ?_
              refine RunD.ot0 (x := .v (.bool (decide (0 < (r178.length : Int))))) rfl rfl rfl rfl (.bin rfl rfl (fun w => b_gtr w) rfl) rfl ?_
              refine RunD.ot0 (x := .v (.bool (decide (0 < (r178.length : Int))))) rfl rfl rfl rfl (.moveX rfl) rfl ?_
              refine RunD.cases (t := 113) (c := decide (0 < (r178.length : Int))) rfl (fun g214 => ?_) (fun g214 => ?_)
              · replace H := ct H g214
                refine RunD.gt0 (x := .lst (List.map eI r178)) rfl rfl rfl (bo g214) rfl rfl (.moveX rfl) rfl ?_
                obtain ⟨y215, h216, H⟩ := bs H
                refine RunD.gt0 (x := .rptr [.v (.int .i64 y215)]) rfl rfl rfl (bo g214) rfl rfl (.idxLX h216 enc_I sl23 rfl rfl rfl) rfl ?_
                refine RunD.gt0 (x := .v (.int .i64 y215)) rfl rfl rfl (bo g214) rfl rfl (.loadR ty3 rfl rfl) rfl ?_
                refine RunD.gt0 (x := .v (.bool (decide (y215 < (-1))))) rfl rfl rfl (bo g214) rfl rfl (.bin rfl rfl (fun w => b_lss w) rfl) rfl ?_
                refine RunD.gt0 (x := .v (.bool (decide (y215 < (-1))))) rfl rfl rfl (bo g214) rfl rfl (.moveX rfl) rfl ?_
                refine RunD.cases (t := 118) (c := decide (y215 < (-1))) rfl (fun g217 => ?_) (fun g217 => ?_)
                · replace H := ct H g217
                  refine RunD.xn rfl rfl rfl (bo g217) rfl rfl ?_
                  refine RunD.xn rfl rfl rfl (bo g217) rfl rfl ?_
                  refine RunD.xn rfl rfl rfl (bo g217) rfl rfl ?_
                  refine RunD.xn rfl rfl rfl (bo g217) rfl rfl ?_
                  refine RunD.xn rfl rfl rfl (bo g217) rfl rfl ?_
                  refine RunD.xn rfl rfl rfl (bo g217) rfl rfl ?_
                  refine RunD.xn rfl rfl rfl (bo g217) rfl rfl ?_
                  refine RunD.xn rfl rfl rfl (bo g217) rfl rfl ?_
                  refine RunD.xn rfl rfl rfl (bo g217) rfl rfl ?_
                  refine RunD.xn rfl rfl rfl (bo g217) rfl rfl ?_
                  refine RunD.gt0 (x := .v (.bool true)) rfl rfl rfl (bo g214) rfl rfl (.pickT (bo g217) rfl) rfl ?_
                  refine RunD.ot0 (x := .v (.bool true)) rfl rfl rfl rfl (.pickT (bo g214) rfl) rfl ?_
                  refine RunD.nil (by kernel_rfl) ⟨rfl, rfl, ?_⟩
                  refine T.condT rfl ?_
                  refine T.seq ?_
                  refine T.sub (sub_pick [] [] (st' := ⟨[], [], 176, []⟩) rfl rfl rfl rfl rfl) ?_
                  refine T.region ?_
                  refine RunT.ot0 (x := .v (.bool false)) rfl rfl rfl rfl (.assignX rfl) ?_
                  refine RunT.nil ?_
                  obtain rfl := si H
                  have HX := exr HO157
                  obtain rfl := si HX
                  refine T.sub (sub_to (st' := ⟨[(4, .v (.bool false))], [], 8, []⟩) [] (by decide) rfl rfl (⟨⟨_, rfl, .one .v⟩, trivial⟩) (trivial)) ?_
                  refine T.ret ?_
                  exact RetOk.same [.v (.bool false)] ⟨rfl, trivial⟩ rfl rfl rfl
                · replace H := cf H g217
                  refine RunD.gt0 (x := .lst (List.map eI r178)) rfl rfl rfl (bo g217) rfl rfl (.moveX rfl) rfl ?_
                  refine RunD.gt0 (x := .lst (List.map eI r178)) rfl rfl rfl (bo g217) rfl rfl (.moveX rfl) rfl ?_
                  refine RunD.gt0 (x := .v (.int .i64 (r178.length : Int))) rfl rfl rfl (bo g217) rfl rfl (.lenLm Try.underlying23 rfl rfl) rfl ?_
                  refine RunD.gt0 (x := .v (.int .i64 (wr ((r178.length : Int) - 1)))) rfl rfl rfl (bo g217) rfl rfl (.bin rfl rfl (fun w => b_subw w) rfl) rfl ?_
                  obtain ⟨y218, h219, H⟩ := bs H
                  refine RunD.gt0 (x := .rptr [.v (.int .i64 y218)]) rfl rfl rfl (bo g217) rfl rfl (.idxLX h219 enc_I sl23 rfl rfl rfl) rfl ?_
                  refine RunD.gt0 (x := .v (.int .i64 y218)) rfl rfl rfl (bo g217) rfl rfl (.loadR ty3 rfl rfl) rfl ?_
                  refine RunD.gt0 (x := .ptr 0 4) rfl rfl rfl (bo g217) rfl rfl (.fieldPX fl26_4 rfl rfl) rfl ?_
                  refine RunD.gt0 (x := .own 3 0 o23.length) rfl rfl rfl (bo g217) rfl rfl (.loadP ty24 rfl rfl rfl) rfl ?_
                  refine RunD.gt0 (x := .v (.int .i64 (o23.length : Int))) rfl rfl rfl (bo g217) rfl rfl (.lenON rfl Try.underlying24 rfl rfl) rfl ?_
                  refine RunD.gt0 (x := .v (.bool (decide ((o23.length : Int) ≤ y218)))) rfl rfl rfl (bo g217) rfl rfl (.bin rfl rfl (fun w => b_geq w) rfl) rfl ?_
                  refine RunD.gt0 (x := .v (.bool (decide ((o23.length : Int) ≤ y218)))) rfl rfl rfl (bo g214) rfl rfl (.pickF (bo g217) rfl) rfl ?_
                  refine RunD.ot0 (x := .v (.bool (decide ((o23.length : Int) ≤ y218)))) rfl rfl rfl rfl (.pickT (bo g214) rfl) rfl ?_
                  refine RunD.nil (by kernel_rfl) ⟨rfl, rfl, ?_⟩
                  refine T.cond2 (t := decide ((o23.length : Int) ≤ y218)) rfl (fun c220 => ?_) (fun c220 => ?_)
                  · replace H := ct H c220
                    refine T.seq ?_
                    refine T.sub (sub_pick [] [] (st' := ⟨[], [], 176, []⟩) rfl rfl rfl rfl rfl) ?_
                    refine T.region ?_
                    refine RunT.ot0 (x := .v (.bool false)) rfl rfl rfl rfl (.assignX rfl) ?_
                    refine RunT.nil ?_
                    obtain rfl := si H
                    have HX := exr HO157
                    obtain rfl := si HX
                    refine T.sub (sub_to (st' := ⟨[(4, .v (.bool false))], [], 8, []⟩) [] (by decide) rfl rfl (⟨⟨_, rfl, .one .v⟩, trivial⟩) (trivial)) ?_
                    refine T.ret ?_
                    exact RetOk.same [.v (.bool false)] ⟨rfl, trivial⟩ rfl rfl rfl
                  · replace H := cf H c220
                    refine T.skip ?_
                    refine T.region ?_
                    refine RunT.ot0 (x := .v (.int .i64 v160)) rfl rfl rfl rfl (.moveX rfl) ?_
                    refine RunT.ot0 (x := .v (.int .i64 (wr (v160 + 1)))) rfl rfl rfl rfl (.bin rfl rfl (fun w => b_addw w) rfl) ?_
                    refine RunT.ot0 (x := .v (.int .i64 (wr (v160 + 1)))) rfl rfl rfl rfl (.assignX rfl) ?_
                    refine RunT.nil ?_
                    exact ⟨n, Nat.lt_succ_self n, _, ⟨v172, wr (v160 + 1), H, rfl⟩, (sub_to [some 0, some 1, some 2, some 3] (by decide) rfl rfl (⟨⟨_, rfl, .one (.ptr rfl)⟩, ⟨⟨_, rfl, .one .lst⟩, ⟨⟨_, rfl, .one .lst⟩, ⟨⟨_, rfl, .one .v⟩, ⟨⟨_, rfl, .one .v⟩, trivial⟩⟩⟩⟩⟩) (⟨⟨rfl, .inl ⟨_, _, rfl, rfl, .box ⟨(.own rfl), .v, .v, (.own rfl), (.own rfl), trivial⟩⟩⟩, ⟨⟨rfl, .inl ⟨_, _, rfl, rfl, .arr rfl⟩⟩, ⟨⟨rfl, .inl ⟨_, _, rfl, rfl, .arr rfl⟩⟩, ⟨⟨rfl, .inl ⟨_, _, rfl, rfl, .arr rfl⟩⟩, trivial⟩⟩⟩⟩))⟩
              · replace H := cf H g214
                refine RunD.xn rfl rfl rfl (bo g214) rfl rfl ?_
                refine RunD.xn rfl rfl rfl (bo g214) rfl rfl ?_
                refine RunD.xn rfl rfl rfl (bo g214) rfl rfl ?_
                refine RunD.xn rfl rfl rfl (bo g214) rfl rfl ?_
                refine RunD.xn rfl rfl rfl (bo g214) rfl rfl ?_
                refine RunD.xu rfl rfl rfl rfl rfl rfl ?_
                refine RunD.xu rfl rfl rfl rfl rfl rfl ?_
                refine RunD.xu rfl rfl rfl rfl rfl rfl ?_
                refine RunD.xu rfl rfl rfl rfl rfl rfl ?_
                refine RunD.xu rfl rfl rfl rfl rfl rfl ?_
                refine RunD.xu rfl rfl rfl rfl rfl rfl ?_
                refine RunD.xu rfl rfl rfl rfl rfl rfl ?_
                refine RunD.xu rfl rfl rfl rfl rfl rfl ?_
                refine RunD.xu rfl rfl rfl rfl rfl rfl ?_
                refine RunD.xu rfl rfl rfl rfl rfl rfl ?_
                refine RunD.xn rfl rfl rfl (bo g214) rfl rfl ?_
                refine RunD.ot0 (x := .v (.bool false)) rfl rfl rfl rfl (.pickF (bo g214) rfl) rfl ?_
                refine RunD.nil (by kernel_rfl) ⟨rfl, rfl, ?_⟩
                refine T.condF rfl ?_
                refine T.skip ?_
                refine T.sub (sub_pick [5, 7, 8, 9, 10] [0, 1, 2, 3] (st' := ⟨[(5, .ptr 0 0), (7, .lst (List.map eB r48)), (8, .lst (List.map eI r50)), (9, .v (.int .i64 v172)), (10, .v (.int .i64 v160))], [(0, some (.box [.own 1 0 r1.Seats.length, .v (.int .i64 r1.Gap), .v (.int .i64 r1.Radius), .own 2 0 r1.Kills.length, .own 3 0 o23.length])), (1, some (.arr false 4 (List.map eSeat r1.Seats))), (2, some (.arr false 1 (List.map eI r1.Kills))), (3, some (.arr false 3 (List.map ePole o23)))], 176, []⟩) rfl rfl rfl rfl rfl) ?_
                refine T.region ?_
                refine RunT.ot0 (x := .v (.int .i64 v160)) rfl rfl rfl rfl (.moveX rfl) ?_
                refine RunT.ot0 (x := .v (.int .i64 (wr (v160 + 1)))) rfl rfl rfl rfl (.bin rfl rfl (fun w => b_addw w) rfl) ?_
                refine RunT.ot0 (x := .v (.int .i64 (wr (v160 + 1)))) rfl rfl rfl rfl (.assignX rfl) ?_
                refine RunT.nil ?_
                exact ⟨n, Nat.lt_succ_self n, _, ⟨v172, wr (v160 + 1), H, rfl⟩, (sub_to [some 0, some 1, some 2, some 3] (by decide) rfl rfl (⟨⟨_, rfl, .one (.ptr rfl)⟩, ⟨⟨_, rfl, .one .lst⟩, ⟨⟨_, rfl, .one .lst⟩, ⟨⟨_, rfl, .one .v⟩, ⟨⟨_, rfl, .one .v⟩, trivial⟩⟩⟩⟩⟩) (⟨⟨rfl, .inl ⟨_, _, rfl, rfl, .box ⟨(.own rfl), .v, .v, (.own rfl), (.own rfl), trivial⟩⟩⟩, ⟨⟨rfl, .inl ⟨_, _, rfl, rfl, .arr rfl⟩⟩, ⟨⟨rfl, .inl ⟨_, _, rfl, rfl, .arr rfl⟩⟩, ⟨⟨rfl, .inl ⟨_, _, rfl, rfl, .arr rfl⟩⟩, trivial⟩⟩⟩⟩))⟩
        · replace H := cf H c161
          refine T.exit ?_
          obtain rfl := si H
          exact ⟨_, rfl, (sub_to [some 0, some 1, some 2, some 3] (by decide) rfl rfl (⟨⟨_, rfl, .one (.ptr rfl)⟩, ⟨⟨_, rfl, .one .lst⟩, ⟨⟨_, rfl, .one .v⟩, trivial⟩⟩⟩) (⟨⟨rfl, .inl ⟨_, _, rfl, rfl, .box ⟨(.own rfl), .v, .v, (.own rfl), (.own rfl), trivial⟩⟩⟩, ⟨⟨rfl, .inl ⟨_, _, rfl, rfl, .arr rfl⟩⟩, ⟨⟨rfl, .inl ⟨_, _, rfl, rfl, .arr rfl⟩⟩, ⟨⟨rfl, .inl ⟨_, _, rfl, rfl, .arr rfl⟩⟩, trivial⟩⟩⟩⟩))⟩
      · intro v158 s hR hS
        subst hR
        have H := exg HO157
        refine T.sub hS ?_
        refine T.seq ?_
        refine T.region ?_
        obtain ⟨r221, h222, H⟩ := bs H
        refine RunT.ot0 (x := .v (.bool r221)) rfl rfl rfl rfl (.callp (law8_told_pc false k  r221 h222) rfl trivial rfl rfl rfl) ?_
        refine RunT.ot0 (x := .v (.bool r221)) rfl rfl rfl rfl (.moveX rfl) ?_
        refine RunT.cases (t := 132) (c := r221) rfl (fun g223 => ?_) (fun g223 => ?_)
        · replace H := ct H g223
          refine RunT.gt0 (x := .v (.int .i64 v158)) rfl rfl rfl (bo g223) rfl rfl (.moveX rfl) ?_
          refine RunT.gt0 (x := .lst (List.map eI r50)) rfl rfl rfl (bo g223) rfl rfl (.moveX rfl) ?_
          refine RunT.gt0 (x := .v (.int .i64 (r50.length : Int))) rfl rfl rfl (bo g223) rfl rfl (.lenLm Try.underlying23 rfl rfl) ?_
          refine RunT.gt0 (x := .v (.bool (decide (v158 = (r50.length : Int))))) rfl rfl rfl (bo g223) rfl rfl (.bin rfl rfl (fun w => b_eql w) rfl) ?_
          refine RunT.ot0 (x := .v (.bool (decide (v158 = (r50.length : Int))))) rfl rfl rfl rfl (.pickT (bo g223) rfl) ?_
          refine RunT.ot0 (x := .v (.bool (decide (v158 = (r50.length : Int))))) rfl rfl rfl rfl (.moveX rfl) ?_
          refine RunT.cases (t := 138) (c := decide (v158 = (r50.length : Int))) rfl (fun g224 => ?_) (fun g224 => ?_)
          · replace H := ct H g224
            refine RunT.gt0 (x := .lst (List.map eI r50)) rfl rfl rfl (bo g224) rfl rfl (.moveX rfl) ?_
            refine RunT.gt0 (x := .agg [.own 1 0 r1.Seats.length, .v (.int .i64 r1.Gap), .v (.int .i64 r1.Radius), .own 2 0 r1.Kills.length, .own 3 0 o23.length]) rfl rfl rfl (bo g224) rfl rfl (.loadP ty26 rfl rfl rfl) ?_
            obtain ⟨r225, h226, H⟩ := bs H
            refine RunT.gt0 (x := .lst (List.map eI r225)) rfl rfl rfl (bo g224) rfl rfl (.callp (PC.frozen (kill_Killed_pc false k (Venue.mk r1.Seats r1.Gap r1.Radius r1.Kills o23) r225 h226)) rfl ⟨(.agg' ⟨(.all rfl (List.length_map _).symm), .v, .v, (.all rfl (List.length_map _).symm), (.all rfl (List.length_map _).symm), trivial⟩), trivial⟩ rfl rfl rfl) ?_
            obtain ⟨r227, h228, H⟩ := bs H
            refine RunT.gt0 (x := .v (.bool r227)) rfl rfl rfl (bo g224) rfl rfl (.callp (ref6_SameInts_pc false k r50 r225 r227 h228) rfl ⟨(.one .lst), (.one .lst), trivial⟩ rfl rfl rfl) ?_
            refine RunT.ot0 (x := .v (.bool r227)) rfl rfl rfl rfl (.pickT (bo g224) rfl) ?_
            refine RunT.ot0 (x := .v (.bool r227)) rfl rfl rfl rfl (.assignX rfl) ?_
            refine RunT.nil ?_
            obtain rfl := si H
            refine T.sub (sub_to (st' := ⟨[(4, .v (.bool r227))], [], 8, []⟩) [] (by decide) rfl rfl (⟨⟨_, rfl, .one .v⟩, trivial⟩) (trivial)) ?_
            refine T.ret ?_
            exact RetOk.same [.v (.bool r227)] ⟨rfl, trivial⟩ rfl rfl rfl
          · replace H := cf H g224
            refine RunT.xn rfl rfl rfl (bo g224) rfl rfl ?_
            refine RunT.xn rfl rfl rfl (bo g224) rfl rfl ?_
            refine RunT.xn rfl rfl rfl (bo g224) rfl rfl ?_
            refine RunT.xn rfl rfl rfl (bo g224) rfl rfl ?_
            refine RunT.ot0 (x := .v (.bool false)) rfl rfl rfl rfl (.pickF (bo g224) rfl) ?_
            refine RunT.ot0 (x := .v (.bool false)) rfl rfl rfl rfl (.assignX rfl) ?_
            refine RunT.nil ?_
            obtain rfl := si H
            refine T.sub (sub_to (st' := ⟨[(4, .v (.bool false))], [], 8, []⟩) [] (by decide) rfl rfl (⟨⟨_, rfl, .one .v⟩, trivial⟩) (trivial)) ?_
            refine T.ret ?_
            exact RetOk.same [.v (.bool false)] ⟨rfl, trivial⟩ rfl rfl rfl
        · replace H := cf H g223
          refine RunT.xn rfl rfl rfl (bo g223) rfl rfl ?_
          refine RunT.xn rfl rfl rfl (bo g223) rfl rfl ?_
          refine RunT.xn rfl rfl rfl (bo g223) rfl rfl ?_
          refine RunT.xn rfl rfl rfl (bo g223) rfl rfl ?_
          refine RunT.ot0 (x := .v (.bool false)) rfl rfl rfl rfl (.pickF (bo g223) rfl) ?_
          refine RunT.ot0 (x := .v (.bool false)) rfl rfl rfl rfl (.moveX rfl) ?_
          refine RunT.xn rfl rfl rfl rfl rfl rfl ?_
          refine RunT.xn rfl rfl rfl rfl rfl rfl ?_
          refine RunT.xn rfl rfl rfl rfl rfl rfl ?_
          refine RunT.xn rfl rfl rfl rfl rfl rfl ?_
          refine RunT.ot0 (x := .v (.bool false)) rfl rfl rfl rfl (.pickF rfl rfl) ?_
          refine RunT.ot0 (x := .v (.bool false)) rfl rfl rfl rfl (.assignX rfl) ?_
          refine RunT.nil ?_
          obtain rfl := si H
          refine T.sub (sub_to (st' := ⟨[(4, .v (.bool false))], [], 8, []⟩) [] (by decide) rfl rfl (⟨⟨_, rfl, .one .v⟩, trivial⟩) (trivial)) ?_
          refine T.ret ?_
          exact RetOk.same [.v (.bool false)] ⟨rfl, trivial⟩ rfl rfl rfl
end Go.Proofs.Ytlfpkjlaajfjnaa
