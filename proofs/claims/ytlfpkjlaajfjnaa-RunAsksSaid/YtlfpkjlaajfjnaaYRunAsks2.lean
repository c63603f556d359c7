/- The Go functions come to just what their plain forms come to: one contract each. -/
import Derived.Test.YtlfpkjlaajfjnaaYRunAsks1
set_option linter.unusedVariables false
set_option linter.unusedSimpArgs false
set_option maxRecDepth 100000
namespace Go.Proofs.Ytlfpkjlaajfjnaa
open Go Go.Sh Go.Px
attribute [local irreducible] Go.Sh.T Go.Sh.RunT Go.Sh.RunD
set_option maxHeartbeats 4000000 in
theorem ref6_Run_pc (al : Bool) (k : Nat) (a0 : Venue) (a1 : (List Bool)) (a2 : Int) (a3 : Int) (o : (List Int) × Bool) (H : ref6_Run k a0 a1 a2 a3 = some o) : PC Try.prog al 43 [.agg [.lst (List.map eSeat a0.Seats), .v (.int .i64 a0.Gap), .v (.int .i64 a0.Radius), .lst (List.map eI a0.Kills), .lst (List.map ePole a0.Poles)], .lst (List.map eB a1), .v (.int .i64 a2), .v (.int .i64 a3)] (.tup [.frs 1 (List.map eI o.1), .v (.bool o.2)]) := by
  unfold ref6_Run at H
  refine PC.of_T Try.func43 rfl rfl (n := 23) rfl rfl (.inr (flatT_tup ⟨(flat1_frs (sz := 1) fl_I), rfl, trivial⟩)) ?_
  intro base B w0
  refine T.st (st' := ⟨[(0, .agg [.lst (List.map eSeat a0.Seats), .v (.int .i64 a0.Gap), .v (.int .i64 a0.Radius), .lst (List.map eI a0.Kills), .lst (List.map ePole a0.Poles)]), (1, .lst (List.map eB a1)), (2, .v (.int .i64 a2)), (3, .v (.int .i64 a3))], [], 0, []⟩) rfl ?_
  refine T.seq ?_
  refine T.region ?_
  refine RunT.ot1 (x := .ptr 0 0) (p0 := (0, some (.box [.lst (List.map eSeat a0.Seats), .v (.int .i64 a0.Gap), .v (.int .i64 a0.Radius), .lst (List.map eI a0.Kills), .lst (List.map ePole a0.Poles)]))) (n' := 8) rfl rfl rfl rfl (.boxX rfl rfl rfl) rfl ?_
  refine RunT.ot0 (x := .v (.slice none 0 0)) rfl rfl rfl rfl (.assignX rfl) ?_
  refine RunT.ot0 (x := .v (.bool false)) rfl rfl rfl rfl (.assignX rfl) ?_
  refine RunT.nil ?_
  refine T.seq ?_
  refine T.seq ?_
  refine T.region ?_
  refine RunT.ot0 (x := .v (.int .i64 a3)) rfl rfl rfl rfl (.moveX rfl) ?_
  refine RunT.ot0 (x := .v (.bool (decide (a3 < 1)))) rfl rfl rfl rfl (.bin rfl rfl (fun w => b_lss w) rfl) ?_
  refine RunT.ot0 (x := .v (.bool (decide (a3 < 1)))) rfl rfl rfl rfl (.moveX rfl) ?_
  refine RunT.cases (t := 12) (c := decide (a3 < 1)) rfl (fun g1 => ?_) (fun g1 => ?_)
  · replace H := ct H g1
    refine RunT.xn rfl rfl rfl (bo g1) rfl rfl ?_
    refine RunT.xn rfl rfl rfl (bo g1) rfl rfl ?_
    refine RunT.xn rfl rfl rfl (bo g1) rfl rfl ?_
    refine RunT.xn rfl rfl rfl (bo g1) rfl rfl ?_
    refine RunT.xn rfl rfl rfl (bo g1) rfl rfl ?_
    refine RunT.xn rfl rfl rfl (bo g1) rfl rfl ?_
    refine RunT.ot0 (x := .v (.bool true)) rfl rfl rfl rfl (.pickT (bo g1) rfl) ?_
    refine RunT.nil ?_
    refine T.condT rfl ?_
    refine T.seq ?_
    refine T.region ?_
    refine RunT.ot0 (x := .v (.slice none 0 0)) rfl rfl rfl rfl (.assignX rfl) ?_
    refine RunT.ot0 (x := .v (.bool false)) rfl rfl rfl rfl (.assignX rfl) ?_
    refine RunT.nil ?_
    obtain rfl := si H
    refine T.sub (sub_to (st' := ⟨[(8, .own 0 0 0), (9, .v (.bool false))], [(0, some (.arr false 1 (List.map eI [])))], 8, []⟩) [none] (by decide) rfl rfl (⟨⟨_, rfl, .one .nilO⟩, ⟨⟨_, rfl, .one .v⟩, trivial⟩⟩) (⟨⟨rfl, .inr ⟨rfl, false, _, rfl, (by decide)⟩⟩, trivial⟩)) ?_
    refine T.ret ?_
    exact RetOk.same [.own 0 0 0, .v (.bool false)] ⟨rfl, rfl, trivial⟩ rfl rfl rfl
  · replace H := cf H g1
    refine RunT.gt0 (x := .v (.int .i64 a3)) rfl rfl rfl (bo g1) rfl rfl (.moveX rfl) ?_
    refine RunT.gt0 (x := .agg [.lst (List.map eSeat a0.Seats), .v (.int .i64 a0.Gap), .v (.int .i64 a0.Radius), .lst (List.map eI a0.Kills), .lst (List.map ePole a0.Poles)]) rfl rfl rfl (bo g1) rfl rfl (.loadP ty26 rfl rfl rfl) ?_
    refine RunT.gt0 (x := .lst (List.map eB a1)) rfl rfl rfl (bo g1) rfl rfl (.moveX rfl) ?_
    refine RunT.gt0 (x := .v (.int .i64 a2)) rfl rfl rfl (bo g1) rfl rfl (.moveX rfl) ?_
    obtain ⟨r2, h3, H⟩ := bs H
    refine RunT.gt0 (x := .v (.int .i64 r2)) rfl rfl rfl (bo g1) rfl rfl (.callp (ref6_Long_pc false k a0 a1 a2 r2 h3) rfl ⟨(.agg' ⟨.lst, .v, .v, .lst, .lst, trivial⟩), (.one .lst), (.one .v), trivial⟩ rfl rfl rfl) ?_
    refine RunT.gt0 (x := .v (.bool (decide (r2 < a3)))) rfl rfl rfl (bo g1) rfl rfl (.bin rfl rfl (fun w => b_gtr w) rfl) ?_
    refine RunT.ot0 (x := .v (.bool (decide (r2 < a3)))) rfl rfl rfl rfl (.pickF (bo g1) rfl) ?_
    refine RunT.nil ?_
    refine T.cond2 (t := decide (r2 < a3)) rfl (fun c4 => ?_) (fun c4 => ?_)
    · replace H := ct H c4
      refine T.seq ?_
      refine T.sub (sub_pick [] [] (st' := ⟨[], [], 8, []⟩) rfl rfl rfl rfl rfl) ?_
      refine T.region ?_
      refine RunT.ot0 (x := .v (.slice none 0 0)) rfl rfl rfl rfl (.assignX rfl) ?_
      refine RunT.ot0 (x := .v (.bool false)) rfl rfl rfl rfl (.assignX rfl) ?_
      refine RunT.nil ?_
      obtain rfl := si H
      refine T.sub (sub_to (st' := ⟨[(8, .own 0 0 0), (9, .v (.bool false))], [(0, some (.arr false 1 (List.map eI [])))], 8, []⟩) [none] (by decide) rfl rfl (⟨⟨_, rfl, .one .nilO⟩, ⟨⟨_, rfl, .one .v⟩, trivial⟩⟩) (⟨⟨rfl, .inr ⟨rfl, false, _, rfl, (by decide)⟩⟩, trivial⟩)) ?_
      refine T.ret ?_
      exact RetOk.same [.own 0 0 0, .v (.bool false)] ⟨rfl, rfl, trivial⟩ rfl rfl rfl
    · replace H := cf H c4
      refine T.skip ?_
      refine T.seq ?_
      refine T.region ?_
      refine RunT.ot0 (x := .v (.int .i64 a2)) rfl rfl rfl rfl (.moveX rfl) ?_
      refine RunT.ot0 (x := .v (.int .i64 a3)) rfl rfl rfl rfl (.moveX rfl) ?_
      obtain ⟨r5, h6, H⟩ := bs H
      refine RunT.ot1 (x := .own 8 0 ((List.map eI r5).length)) (p0 := (8, some (.arr false 1 (List.map eI r5)))) (n' := 16) rfl rfl rfl rfl (.callp (ref6_row_pc false k a2 a3 r5 h6) rfl ⟨(.one .v), (.one .v), trivial⟩ rfl rfl rfl) rfl ?_
      refine RunT.ot0 (x := .own 8 0 ((List.map eI r5).length)) rfl rfl rfl rfl (.assignX rfl) ?_
      refine RunT.ot0 (x := .v (.bool true)) rfl rfl rfl rfl (.assignX rfl) ?_
      refine RunT.nil ?_
      obtain rfl := si H
      refine T.sub (sub_to (st' := ⟨[(8, .own 0 0 ((List.map eI r5).length)), (9, .v (.bool true))], [(0, some (.arr false 1 (List.map eI r5)))], 8, []⟩) [some 8] (by decide) rfl rfl (⟨⟨_, rfl, .one (.own' rfl ((List.length_map _).trans (List.length_map _).symm))⟩, ⟨⟨_, rfl, .one .v⟩, trivial⟩⟩) (⟨⟨rfl, .inl ⟨_, _, rfl, rfl, .arr rfl⟩⟩, trivial⟩)) ?_
      refine T.ret ?_
      exact RetOk.same [.own 0 0 ((List.map eI r5).length), .v (.bool true)] ⟨rfl, rfl, trivial⟩ rfl rfl rfl
set_option maxHeartbeats 4000000 in
theorem ref6_Next_pc (al : Bool) (k : Nat) (a0 : Venue) (a1 : Int) (o : Bool) (H : ref6_Next k a0 a1 = some o) : PC Try.prog al 45 [.agg [.lst (List.map eSeat a0.Seats), .v (.int .i64 a0.Gap), .v (.int .i64 a0.Radius), .lst (List.map eI a0.Kills), .lst (List.map ePole a0.Poles)], .v (.int .i64 a1)] (.v (.bool o)) := by
  unfold ref6_Next at H
  refine PC.of_T Try.func45 rfl rfl (n := 16) rfl rfl (.inr rfl) ?_
  intro base B w0
  refine T.st (st' := ⟨[(0, .agg [.lst (List.map eSeat a0.Seats), .v (.int .i64 a0.Gap), .v (.int .i64 a0.Radius), .lst (List.map eI a0.Kills), .lst (List.map ePole a0.Poles)]), (1, .v (.int .i64 a1))], [], 0, []⟩) rfl ?_
  refine T.seq ?_
  refine T.region ?_
  refine RunT.ot1 (x := .ptr 0 0) (p0 := (0, some (.box [.lst (List.map eSeat a0.Seats), .v (.int .i64 a0.Gap), .v (.int .i64 a0.Radius), .lst (List.map eI a0.Kills), .lst (List.map ePole a0.Poles)]))) (n' := 8) rfl rfl rfl rfl (.boxX rfl rfl rfl) rfl ?_
  refine RunT.ot0 (x := .v (.bool false)) rfl rfl rfl rfl (.assignX rfl) ?_
  refine RunT.nil ?_
  refine T.seq ?_
  refine T.region ?_
  refine RunT.ot0 (x := .v (.int .i64 a1)) rfl rfl rfl rfl (.moveX rfl) ?_
  refine RunT.ot0 (x := .v (.bool (decide (a1 < 4611686018427387904)))) rfl rfl rfl rfl (.bin rfl rfl (fun w => b_lss w) rfl) ?_
  refine RunT.ot0 (x := .v (.bool (decide (a1 < 4611686018427387904)))) rfl rfl rfl rfl (.moveX rfl) ?_
  refine RunT.cases (t := 7) (c := decide (a1 < 4611686018427387904)) rfl (fun g1 => ?_) (fun g1 => ?_)
  · replace H := ct H g1
    refine RunT.gt0 (x := .agg [.lst (List.map eSeat a0.Seats), .v (.int .i64 a0.Gap), .v (.int .i64 a0.Radius), .lst (List.map eI a0.Kills), .lst (List.map ePole a0.Poles)]) rfl rfl rfl (bo g1) rfl rfl (.loadP ty26 rfl rfl rfl) ?_
    obtain ⟨r2, h3, H⟩ := bs H
    refine RunT.gt0 (x := .v (.bool r2)) rfl rfl rfl (bo g1) rfl rfl (.callp (ref2_May_pc false k a0 r2 h3) rfl ⟨(.agg' ⟨.lst, .v, .v, .lst, .lst, trivial⟩), trivial⟩ rfl rfl rfl) ?_
    refine RunT.ot0 (x := .v (.bool r2)) rfl rfl rfl rfl (.pickT (bo g1) rfl) ?_
    refine RunT.ot0 (x := .v (.bool r2)) rfl rfl rfl rfl (.moveX rfl) ?_
    refine RunT.cases (t := 11) (c := r2) rfl (fun g4 => ?_) (fun g4 => ?_)
    · replace H := ct H g4
      refine RunT.gt0 (x := .agg [.lst (List.map eSeat a0.Seats), .v (.int .i64 a0.Gap), .v (.int .i64 a0.Radius), .lst (List.map eI a0.Kills), .lst (List.map ePole a0.Poles)]) rfl rfl rfl (bo g4) rfl rfl (.loadP ty26 rfl rfl rfl) ?_
      refine RunT.gt0 (x := .v (.int .i64 a1)) rfl rfl rfl (bo g4) rfl rfl (.moveX rfl) ?_
      obtain ⟨r5, h6, H⟩ := bs H
      refine RunT.gt0 (x := .v (.bool r5)) rfl rfl rfl (bo g4) rfl rfl (.callp (ref6_next_pc false k a0 a1 r5 h6) rfl ⟨(.agg' ⟨.lst, .v, .v, .lst, .lst, trivial⟩), (.one .v), trivial⟩ rfl rfl rfl) ?_
      refine RunT.ot0 (x := .v (.bool r5)) rfl rfl rfl rfl (.pickT (bo g4) rfl) ?_
      refine RunT.ot0 (x := .v (.bool r5)) rfl rfl rfl rfl (.assignX rfl) ?_
      refine RunT.nil ?_
      obtain rfl := si H
      refine T.sub (sub_to (st' := ⟨[(4, .v (.bool r5))], [], 8, []⟩) [] (by decide) rfl rfl (⟨⟨_, rfl, .one .v⟩, trivial⟩) (trivial)) ?_
      refine T.ret ?_
      exact RetOk.same [.v (.bool r5)] ⟨rfl, trivial⟩ rfl rfl rfl
    · replace H := cf H g4
      refine RunT.xn rfl rfl rfl (bo g4) rfl rfl ?_
      refine RunT.xn rfl rfl rfl (bo g4) rfl rfl ?_
      refine RunT.xn rfl rfl rfl (bo g4) rfl rfl ?_
      refine RunT.ot0 (x := .v (.bool false)) rfl rfl rfl rfl (.pickF (bo g4) rfl) ?_
      refine RunT.ot0 (x := .v (.bool false)) rfl rfl rfl rfl (.assignX rfl) ?_
      refine RunT.nil ?_
      obtain rfl := si H
      refine T.sub (sub_to (st' := ⟨[(4, .v (.bool false))], [], 8, []⟩) [] (by decide) rfl rfl (⟨⟨_, rfl, .one .v⟩, trivial⟩) (trivial)) ?_
      refine T.ret ?_
      exact RetOk.same [.v (.bool false)] ⟨rfl, trivial⟩ rfl rfl rfl
  · replace H := cf H g1
    refine RunT.xn rfl rfl rfl (bo g1) rfl rfl ?_
    refine RunT.xn rfl rfl rfl (bo g1) rfl rfl ?_
    refine RunT.ot0 (x := .v (.bool false)) rfl rfl rfl rfl (.pickF (bo g1) rfl) ?_
    refine RunT.ot0 (x := .v (.bool false)) rfl rfl rfl rfl (.moveX rfl) ?_
    refine RunT.xn rfl rfl rfl rfl rfl rfl ?_
    refine RunT.xn rfl rfl rfl rfl rfl rfl ?_
    refine RunT.xn rfl rfl rfl rfl rfl rfl ?_
    refine RunT.ot0 (x := .v (.bool false)) rfl rfl rfl rfl (.pickF rfl rfl) ?_
    refine RunT.ot0 (x := .v (.bool false)) rfl rfl rfl rfl (.assignX rfl) ?_
    refine RunT.nil ?_
    obtain rfl := si H
    refine T.sub (sub_to (st' := ⟨[(4, .v (.bool false))], [], 8, []⟩) [] (by decide) rfl rfl (⟨⟨_, rfl, .one .v⟩, trivial⟩) (trivial)) ?_
    refine T.ret ?_
    exact RetOk.same [.v (.bool false)] ⟨rfl, trivial⟩ rfl rfl rfl
set_option maxHeartbeats 4000000 in
theorem law7_lists_pc (al : Bool) (k : Nat) (a0 : (List (List Int))) (a1 : (List (List Int))) (o : Bool) (H : law7_lists k a0 a1 = some o) : PC Try.prog al 48 [.lst (List.map eLI a0), .lst (List.map eLI a1)] (.v (.bool o)) := by
  unfold law7_lists at H
  refine PC.of_T Try.func48 rfl rfl (n := 27) rfl rfl (.inr rfl) ?_
  intro base B w0
  refine T.st (st' := ⟨[(0, .lst (List.map eLI a0)), (1, .lst (List.map eLI a1))], [], 0, []⟩) rfl ?_
  refine T.seq ?_
  refine T.region ?_
  refine RunT.ot0 (x := .v (.bool false)) rfl rfl rfl rfl (.assignX rfl) ?_
  refine RunT.nil ?_
  refine T.seq ?_
  refine T.seq ?_
  refine T.region ?_
  refine RunT.ot0 (x := .lst (List.map eLI a0)) rfl rfl rfl rfl (.moveX rfl) ?_
  refine RunT.ot0 (x := .v (.int .i64 (a0.length : Int))) rfl rfl rfl rfl (.lenLm Try.underlying35 rfl rfl) ?_
  refine RunT.ot0 (x := .lst (List.map eLI a1)) rfl rfl rfl rfl (.moveX rfl) ?_
  refine RunT.ot0 (x := .v (.int .i64 (a1.length : Int))) rfl rfl rfl rfl (.lenLm Try.underlying35 rfl rfl) ?_
  refine RunT.ot0 (x := .v (.bool (!decide ((a0.length : Int) = (a1.length : Int))))) rfl rfl rfl rfl (.bin rfl rfl (fun w => b_neq w) rfl) ?_
  refine RunT.nil ?_
  refine T.cond2 (t := !decide ((a0.length : Int) = (a1.length : Int))) rfl (fun c1 => ?_) (fun c1 => ?_)
  · replace H := ct H c1
    refine T.seq ?_
    refine T.region ?_
    refine RunT.ot0 (x := .v (.bool false)) rfl rfl rfl rfl (.assignX rfl) ?_
    refine RunT.nil ?_
    obtain rfl := si H
    refine T.sub (sub_to (st' := ⟨[(4, .v (.bool false))], [], 8, []⟩) [] (by decide) rfl rfl (⟨⟨_, rfl, .one .v⟩, trivial⟩) (trivial)) ?_
    refine T.ret ?_
    exact RetOk.same [.v (.bool false)] ⟨rfl, trivial⟩ rfl rfl rfl
  · replace H := cf H c1
    refine T.skip ?_
    refine T.seq ?_
    refine T.seq ?_
    refine T.region ?_
    refine RunT.ot0 (x := .v (.int .i64 0)) rfl rfl rfl rfl (.assignX rfl) ?_
    refine RunT.nil ?_
    obtain ⟨o19, E20, HO21⟩ := bs H
    refine T.cutPE (fun v22 => o19 = .go v22) (fun v22 => ⟨[], [], 8, []⟩) ?_ ?_
    · have H := E20
      refine T.block ?_
      refine T.loopS (fun n s => ∃ (v23 : Int), law7_lists_l0 k a0 a1 n v23 = some o19 ∧ s = ⟨[(0, .lst (List.map eLI a0)), (1, .lst (List.map eLI a1)), (5, .v (.int .i64 v23))], [], 8, []⟩) k ⟨_, ⟨0, H, rfl⟩, sub_to [] (by decide) rfl rfl (⟨⟨_, rfl, .one .lst⟩, ⟨⟨_, rfl, .one .lst⟩, ⟨⟨_, rfl, .one .v⟩, trivial⟩⟩⟩) (trivial)⟩ ?_
      rintro n s ⟨v23, H, rfl⟩
      rcases n with _ | n
      · cases (show none = some _ from H)
      rw [law7_lists_l0] at H
      refine T.seq ?_
      refine T.seq ?_
      refine T.region ?_
      refine RunT.ot0 (x := .v (.int .i64 v23)) rfl rfl rfl rfl (.moveX rfl) ?_
      refine RunT.ot0 (x := .lst (List.map eLI a0)) rfl rfl rfl rfl (.moveX rfl) ?_
      refine RunT.ot0 (x := .v (.int .i64 (a0.length : Int))) rfl rfl rfl rfl (.lenLm Try.underlying35 rfl rfl) ?_
      refine RunT.ot0 (x := .v (.bool (decide (v23 < (a0.length : Int))))) rfl rfl rfl rfl (.bin rfl rfl (fun w => b_lss w) rfl) ?_
      refine RunT.nil ?_
      refine T.cond2 (t := decide (v23 < (a0.length : Int))) rfl (fun c24 => ?_) (fun c24 => ?_)
      · replace H := ct H c24
        refine T.skip ?_
        refine T.seq ?_
        refine T.block ?_
        refine T.seq ?_
        refine T.draw (wr := []) mixed rfl rfl ?_ rfl
        refine RunD.ot0 (x := .lst (List.map eLI a0)) rfl rfl rfl rfl (.moveX rfl) rfl ?_
        refine RunD.ot0 (x := .v (.int .i64 v23)) rfl rfl rfl rfl (.moveX rfl) rfl ?_
        obtain ⟨y31, h32, H⟩ := bs H
        refine RunD.ot0 (x := .rptr [.lst (List.map eI y31)]) rfl rfl rfl rfl (.idxLX h32 enc_LI sl35 rfl rfl rfl) rfl ?_
        refine RunD.ot0 (x := .lst (List.map eI y31)) rfl rfl rfl rfl (.loadR ty23 rfl rfl) rfl ?_
        refine RunD.ot0 (x := .lst (List.map eLI a1)) rfl rfl rfl rfl (.moveX rfl) rfl ?_
        refine RunD.ot0 (x := .v (.int .i64 v23)) rfl rfl rfl rfl (.moveX rfl) rfl ?_
        obtain ⟨y33, h34, H⟩ := bs H
        refine RunD.ot0 (x := .rptr [.lst (List.map eI y33)]) rfl rfl rfl rfl (.idxLX h34 enc_LI sl35 rfl rfl rfl) rfl ?_
        refine RunD.ot0 (x := .lst (List.map eI y33)) rfl rfl rfl rfl (.loadR ty23 rfl rfl) rfl ?_
        obtain ⟨r35, h36, H⟩ := bs H
        refine RunD.ot0 (x := .v (.bool r35)) rfl rfl rfl rfl (.callp (ref6_SameInts_pc false k y31 y33 r35 h36) rfl ⟨(.one .lst), (.one .lst), trivial⟩ rfl rfl rfl) rfl ?_
        refine RunD.ot0 (x := .v (.bool (!r35))) rfl rfl rfl rfl (.un rfl (fun w => u_not w) rfl) rfl ?_
        refine RunD.nil (by kernel_rfl) ⟨rfl, rfl, ?_⟩
        refine T.cond2 (t := !r35) rfl (fun c37 => ?_) (fun c37 => ?_)
        · replace H := ct H c37
          refine T.seq ?_
          refine T.sub (sub_pick [] [] (st' := ⟨[], [], 88, []⟩) rfl rfl rfl rfl rfl) ?_
          refine T.region ?_
          refine RunT.ot0 (x := .v (.bool false)) rfl rfl rfl rfl (.assignX rfl) ?_
          refine RunT.nil ?_
          obtain rfl := si H
          have HX := exr HO21
          obtain rfl := si HX
          refine T.sub (sub_to (st' := ⟨[(4, .v (.bool false))], [], 8, []⟩) [] (by decide) rfl rfl (⟨⟨_, rfl, .one .v⟩, trivial⟩) (trivial)) ?_
          refine T.ret ?_
          exact RetOk.same [.v (.bool false)] ⟨rfl, trivial⟩ rfl rfl rfl
        · replace H := cf H c37
          refine T.skip ?_
          refine T.region ?_
          refine RunT.ot0 (x := .v (.int .i64 v23)) rfl rfl rfl rfl (.moveX rfl) ?_
          refine RunT.ot0 (x := .v (.int .i64 (wr (v23 + 1)))) rfl rfl rfl rfl (.bin rfl rfl (fun w => b_addw w) rfl) ?_
          refine RunT.ot0 (x := .v (.int .i64 (wr (v23 + 1)))) rfl rfl rfl rfl (.assignX rfl) ?_
          refine RunT.nil ?_
          exact ⟨n, Nat.lt_succ_self n, _, ⟨wr (v23 + 1), H, rfl⟩, (sub_to [] (by decide) rfl rfl (⟨⟨_, rfl, .one .lst⟩, ⟨⟨_, rfl, .one .lst⟩, ⟨⟨_, rfl, .one .v⟩, trivial⟩⟩⟩) (trivial))⟩
      · replace H := cf H c24
        refine T.exit ?_
        obtain rfl := si H
        exact ⟨_, rfl, (sub_to [] (by decide) rfl rfl (trivial) (trivial))⟩
    · intro v22 s hR hS
      subst hR
      have H := exg HO21
      refine T.sub hS ?_
      refine T.seq ?_
      refine T.region ?_
      refine RunT.ot0 (x := .v (.bool true)) rfl rfl rfl rfl (.assignX rfl) ?_
      refine RunT.nil ?_
      obtain rfl := si H
      refine T.sub (sub_to (st' := ⟨[(4, .v (.bool true))], [], 8, []⟩) [] (by decide) rfl rfl (⟨⟨_, rfl, .one .v⟩, trivial⟩) (trivial)) ?_
      refine T.ret ?_
      exact RetOk.same [.v (.bool true)] ⟨rfl, trivial⟩ rfl rfl rfl
set_option maxHeartbeats 4000000 in
theorem ref6_Runs_pc (k : Nat) (a0 : Venue) (a1 : (List Bool)) (o : (List (List Int))) (H : ref6_Runs k a0 a1 = some o) : PC Try.prog true 50 [.agg [.lst (List.map eSeat a0.Seats), .v (.int .i64 a0.Gap), .v (.int .i64 a0.Radius), .lst (List.map eI a0.Kills), .lst (List.map ePole a0.Poles)], .lst (List.map eB a1)] (.frs 1 (List.map eLI o)) := by
  unfold ref6_Runs at H
  refine PC.of_T Try.func50 rfl rfl (n := 33) rfl rfl (.inl rfl) ?_
  intro base B w0
  refine T.st (st' := ⟨[(0, .agg [.lst (List.map eSeat a0.Seats), .v (.int .i64 a0.Gap), .v (.int .i64 a0.Radius), .lst (List.map eI a0.Kills), .lst (List.map ePole a0.Poles)]), (1, .lst (List.map eB a1))], [], 0, []⟩) rfl ?_
  refine T.seq ?_
  refine T.region ?_
  refine RunT.ot1 (x := .ptr 0 0) (p0 := (0, some (.box [.lst (List.map eSeat a0.Seats), .v (.int .i64 a0.Gap), .v (.int .i64 a0.Radius), .lst (List.map eI a0.Kills), .lst (List.map ePole a0.Poles)]))) (n' := 8) rfl rfl rfl rfl (.boxX rfl rfl rfl) rfl ?_
  refine RunT.ot0 (x := .v (.slice none 0 0)) rfl rfl rfl rfl (.assignX rfl) ?_
  refine RunT.nil ?_
  refine T.seq ?_
  refine T.seq ?_
  refine T.region ?_
  refine RunT.ot0 (x := .agg [.lst (List.map eSeat a0.Seats), .v (.int .i64 a0.Gap), .v (.int .i64 a0.Radius), .lst (List.map eI a0.Kills), .lst (List.map ePole a0.Poles)]) rfl rfl rfl rfl (.loadP ty26 rfl rfl rfl) ?_
  obtain ⟨r1, h2, H⟩ := bs H
  refine RunT.ot0 (x := .v (.bool r1)) rfl rfl rfl rfl (.callp (ref2_May_pc false k a0 r1 h2) rfl ⟨(.agg' ⟨.lst, .v, .v, .lst, .lst, trivial⟩), trivial⟩ rfl rfl rfl) ?_
  refine RunT.ot0 (x := .v (.bool (!r1))) rfl rfl rfl rfl (.un rfl (fun w => u_not w) rfl) ?_
  refine RunT.nil ?_
  refine T.cond2 (t := !r1) rfl (fun c3 => ?_) (fun c3 => ?_)
  · replace H := ct H c3
    refine T.seq ?_
    refine T.region ?_
    refine RunT.ot0 (x := .v (.slice none 0 0)) rfl rfl rfl rfl (.assignX rfl) ?_
    refine RunT.nil ?_
    obtain rfl := si H
    refine T.sub (sub_to (st' := ⟨[(4, .own 0 0 0)], [(0, some (.arr false 1 (List.map eLI [])))], 8, []⟩) [none] (by decide) rfl rfl (⟨⟨_, rfl, .one .nilO⟩, trivial⟩) (⟨⟨rfl, .inr ⟨rfl, false, _, rfl, (by decide)⟩⟩, trivial⟩)) ?_
    refine T.ret ?_
    exact RetOk.same [.own 0 0 0] ⟨rfl, trivial⟩ rfl rfl rfl
  · replace H := cf H c3
    refine T.skip ?_
    refine T.seq ?_
    refine T.region ?_
    refine RunT.ot0 (x := .v (.slice none 0 0)) rfl rfl rfl rfl (.assignX rfl) ?_
    refine RunT.nil ?_
    refine T.seq ?_
    refine T.seq ?_
    refine T.region ?_
    refine RunT.ot0 (x := .v (.int .i64 0)) rfl rfl rfl rfl (.assignX rfl) ?_
    refine RunT.nil ?_
    obtain ⟨o20, E21, HO22⟩ := bs H
    refine T.cutE (⟨[(5, .own 0 0 o20.length)], [(0, some (.arr false 1 (List.map eLI o20)))], 8, []⟩) ?_ ?_
    · have H := E21
      refine T.block ?_
      refine T.loopS (fun n s => ∃ (v23 : (List (List Int))) (v24 : Int), ref6_Runs_l0 k a0 a1 n v23 v24 = some o20 ∧ s = ⟨[(1, .lst (List.map eB a1)), (2, .ptr 0 0), (5, .own 1 0 v23.length), (6, .v (.int .i64 v24))], [(0, some (.box [.lst (List.map eSeat a0.Seats), .v (.int .i64 a0.Gap), .v (.int .i64 a0.Radius), .lst (List.map eI a0.Kills), .lst (List.map ePole a0.Poles)])), (1, some (.arr false 1 (List.map eLI v23)))], 8, []⟩) k ⟨_, ⟨[], 0, H, rfl⟩, sub_to [some 0, none] (by decide) rfl rfl (⟨⟨_, rfl, .one .lst⟩, ⟨⟨_, rfl, .one (.ptr rfl)⟩, ⟨⟨_, rfl, .one .nilO⟩, ⟨⟨_, rfl, .one .v⟩, trivial⟩⟩⟩⟩) (⟨⟨rfl, .inl ⟨_, _, rfl, rfl, .box ⟨.lst, .v, .v, .lst, .lst, trivial⟩⟩⟩, ⟨⟨rfl, .inr ⟨rfl, false, _, rfl, (by decide)⟩⟩, trivial⟩⟩)⟩ ?_
      rintro n s ⟨v23, v24, H, rfl⟩
      rcases n with _ | n
      · cases (show none = some _ from H)
      rw [ref6_Runs_l0] at H
      refine T.seq ?_
      refine T.seq ?_
      refine T.region ?_
      refine RunT.ot0 (x := .v (.int .i64 v24)) rfl rfl rfl rfl (.moveX rfl) ?_
      refine RunT.ot0 (x := .ptr 0 0) rfl rfl rfl rfl (.fieldPX fl26_0 rfl rfl) ?_
      refine RunT.ot0 (x := .lst (List.map eSeat a0.Seats)) rfl rfl rfl rfl (.loadP ty22 rfl rfl rfl) ?_
      refine RunT.ot0 (x := .v (.int .i64 (a0.Seats.length : Int))) rfl rfl rfl rfl (.lenLm Try.underlying22 rfl rfl) ?_
      refine RunT.ot0 (x := .v (.bool (decide (v24 < (a0.Seats.length : Int))))) rfl rfl rfl rfl (.bin rfl rfl (fun w => b_lss w) rfl) ?_
      refine RunT.nil ?_
      refine T.cond2 (t := decide (v24 < (a0.Seats.length : Int))) rfl (fun c25 => ?_) (fun c25 => ?_)
      · replace H := ct H c25
        refine T.skip ?_
        refine T.block ?_
        refine T.seq ?_
        refine T.region ?_
        refine RunT.ot0 (x := .agg [.lst (List.map eSeat a0.Seats), .v (.int .i64 a0.Gap), .v (.int .i64 a0.Radius), .lst (List.map eI a0.Kills), .lst (List.map ePole a0.Poles)]) rfl rfl rfl rfl (.loadP ty26 rfl rfl rfl) ?_
        refine RunT.ot0 (x := .lst (List.map eB a1)) rfl rfl rfl rfl (.moveX rfl) ?_
        refine RunT.ot0 (x := .v (.int .i64 v24)) rfl rfl rfl rfl (.moveX rfl) ?_
        obtain ⟨r26, h27, H⟩ := bs H
        refine RunT.ot0 (x := .v (.int .i64 r26)) rfl rfl rfl rfl (.callp (ref6_long_pc false k a0 a1 v24 r26 h27) rfl ⟨(.agg' ⟨.lst, .v, .v, .lst, .lst, trivial⟩), (.one .lst), (.one .v), trivial⟩ rfl rfl rfl) ?_
        refine RunT.ot0 (x := .v (.int .i64 r26)) rfl rfl rfl rfl (.assignX rfl) ?_
        refine RunT.nil ?_
        refine T.seq ?_
        refine T.seq ?_
        refine T.sub (sub_pick [1, 2, 5, 6, 7] [0, 1] (st' := ⟨[(1, .lst (List.map eB a1)), (2, .ptr 0 0), (5, .own 1 0 v23.length), (6, .v (.int .i64 v24)), (7, .v (.int .i64 r26))], [(0, some (.box [.lst (List.map eSeat a0.Seats), .v (.int .i64 a0.Gap), .v (.int .i64 a0.Radius), .lst (List.map eI a0.Kills), .lst (List.map ePole a0.Poles)])), (1, some (.arr false 1 (List.map eLI v23)))], 8, []⟩) rfl rfl rfl rfl rfl) ?_
        refine T.region ?_
        refine RunT.ot0 (x := .v (.int .i64 r26)) rfl rfl rfl rfl (.moveX rfl) ?_
        refine RunT.ot0 (x := .v (.bool (decide (0 < r26)))) rfl rfl rfl rfl (.bin rfl rfl (fun w => b_gtr w) rfl) ?_
        refine RunT.nil ?_
        refine T.cond2 (t := decide (0 < r26)) rfl (fun c28 => ?_) (fun c28 => ?_)
        · replace H := ct H c28
          refine T.region ?_
          refine RunT.ot0 (x := .own 1 0 v23.length) rfl rfl rfl rfl (.moveX rfl) ?_
          refine RunT.ot0 (x := .v (.int .i64 v24)) rfl rfl rfl rfl (.moveX rfl) ?_
          refine RunT.ot0 (x := .v (.int .i64 r26)) rfl rfl rfl rfl (.moveX rfl) ?_
          obtain ⟨r29, h30, H⟩ := bs H
          refine RunT.ot0 (x := .lst (List.map eI r29)) rfl rfl rfl rfl (.callp (PC.frozen (ref6_row_pc false k v24 r26 r29 h30)) rfl ⟨(.one .v), (.one .v), trivial⟩ rfl rfl rfl) ?_
          refine RunT.ot1 (x := .own 8 0 (([r29]).length)) (p0 := (8, some (.arr false 1 (List.map eLI [r29])))) (n' := 16) rfl rfl rfl rfl (.bslicem (d := false) (l := [r29]) (f := eLI) sl35 rfl rfl rfl enc_LI rfl) rfl ?_
          obtain ⟨h31, H⟩ := gs H
          refine RunT.ot2 (x := .own 16 0 ((v23 ++ [r29]).length)) (p0 := (16, some (.arr false 1 (List.map eLI (v23 ++ [r29]))))) (p1 := (1, none)) (n' := 24) rfl rfl rfl rfl (.appOn (d := false) (l := v23) (m := [r29]) (f := eLI) rfl sl35 rfl rfl rfl (.ownn Try.underlying35 rfl rfl (fun h => by cases h)) rfl h31) rfl ?_
          refine RunT.ot0 (x := .own 16 0 ((v23 ++ [r29]).length)) rfl rfl rfl rfl (.assignX rfl) ?_
          refine RunT.nil ?_
          refine T.region ?_
          refine RunT.ot0 (x := .v (.int .i64 v24)) rfl rfl rfl rfl (.moveX rfl) ?_
          refine RunT.ot0 (x := .v (.int .i64 r26)) rfl rfl rfl rfl (.moveX rfl) ?_
          refine RunT.ot0 (x := .v (.int .i64 (if 1 > r26 then 1 else r26))) rfl rfl rfl rfl (.max rfl rfl) ?_
          refine RunT.ot0 (x := .v (.int .i64 (wr (v24 + (if 1 > r26 then 1 else r26))))) rfl rfl rfl rfl (.bin rfl rfl (fun w => b_addw w) rfl) ?_
          refine RunT.ot0 (x := .v (.int .i64 (wr (v24 + (if 1 > r26 then 1 else r26))))) rfl rfl rfl rfl (.assignX rfl) ?_
          refine RunT.nil ?_
          exact ⟨n, Nat.lt_succ_self n, _, ⟨v23 ++ [r29], wr (v24 + (if 1 > r26 then 1 else r26)), H, rfl⟩, (sub_to [some 0, some 16] (by decide) rfl rfl (⟨⟨_, rfl, .one .lst⟩, ⟨⟨_, rfl, .one (.ptr rfl)⟩, ⟨⟨_, rfl, .one (.own rfl)⟩, ⟨⟨_, rfl, .one .v⟩, trivial⟩⟩⟩⟩) (⟨⟨rfl, .inl ⟨_, _, rfl, rfl, .box ⟨.lst, .v, .v, .lst, .lst, trivial⟩⟩⟩, ⟨⟨rfl, .inl ⟨_, _, rfl, rfl, .arr rfl⟩⟩, trivial⟩⟩))⟩
        · replace H := cf H c28
          refine T.skip ?_
          refine T.region ?_
          refine RunT.ot0 (x := .v (.int .i64 v24)) rfl rfl rfl rfl (.moveX rfl) ?_
          refine RunT.ot0 (x := .v (.int .i64 r26)) rfl rfl rfl rfl (.moveX rfl) ?_
          refine RunT.ot0 (x := .v (.int .i64 (if 1 > r26 then 1 else r26))) rfl rfl rfl rfl (.max rfl rfl) ?_
          refine RunT.ot0 (x := .v (.int .i64 (wr (v24 + (if 1 > r26 then 1 else r26))))) rfl rfl rfl rfl (.bin rfl rfl (fun w => b_addw w) rfl) ?_
          refine RunT.ot0 (x := .v (.int .i64 (wr (v24 + (if 1 > r26 then 1 else r26))))) rfl rfl rfl rfl (.assignX rfl) ?_
          refine RunT.nil ?_
          exact ⟨n, Nat.lt_succ_self n, _, ⟨v23, wr (v24 + (if 1 > r26 then 1 else r26)), H, rfl⟩, (sub_to [some 0, some 1] (by decide) rfl rfl (⟨⟨_, rfl, .one .lst⟩, ⟨⟨_, rfl, .one (.ptr rfl)⟩, ⟨⟨_, rfl, .one (.own rfl)⟩, ⟨⟨_, rfl, .one .v⟩, trivial⟩⟩⟩⟩) (⟨⟨rfl, .inl ⟨_, _, rfl, rfl, .box ⟨.lst, .v, .v, .lst, .lst, trivial⟩⟩⟩, ⟨⟨rfl, .inl ⟨_, _, rfl, rfl, .arr rfl⟩⟩, trivial⟩⟩))⟩
      · replace H := cf H c25
        refine T.exit ?_
        obtain rfl := si H
        exact (sub_to [some 1] (by decide) rfl rfl (⟨⟨_, rfl, .one (.own rfl)⟩, trivial⟩) (⟨⟨rfl, .inl ⟨_, _, rfl, rfl, .arr rfl⟩⟩, trivial⟩))
    · intro s hS
      have H := HO22
      refine T.sub hS ?_
      refine T.seq ?_
      refine T.sub (sub_pick [5] [0] (st' := ⟨[(5, .own 0 0 o20.length)], [(0, some (.arr false 1 (List.map eLI o20)))], 8, []⟩) rfl rfl rfl rfl rfl) ?_
      refine T.region ?_
      refine RunT.ot0 (x := .own 0 0 o20.length) rfl rfl rfl rfl (.moveX rfl) ?_
      refine RunT.ot0 (x := .own 0 0 o20.length) rfl rfl rfl rfl (.assignX rfl) ?_
      refine RunT.nil ?_
      obtain rfl := si H
      refine T.sub (sub_to (st' := ⟨[(4, .own 0 0 ((List.map eLI o20).length))], [(0, some (.arr false 1 (List.map eLI o20)))], 8, []⟩) [some 0] (by decide) rfl rfl (⟨⟨_, rfl, .one (.own' rfl (List.length_map _).symm)⟩, trivial⟩) (⟨⟨rfl, .inl ⟨_, _, rfl, rfl, .arr rfl⟩⟩, trivial⟩)) ?_
      refine T.ret ?_
      exact RetOk.same [.own 0 0 ((List.map eLI o20).length)] ⟨rfl, trivial⟩ rfl rfl rfl
set_option maxHeartbeats 4000000 in
theorem law7_RunAsks_pc (al : Bool) (k : Nat) (a0 : Venue) (a1 : (List Bool)) (a2 : Int) (a3 : Int) (o : Bool) (H : law7_RunAsks k a0 a1 a2 a3 = some o) : PC Try.prog al 7 [.agg [.lst (List.map eSeat a0.Seats), .v (.int .i64 a0.Gap), .v (.int .i64 a0.Radius), .lst (List.map eI a0.Kills), .lst (List.map ePole a0.Poles)], .lst (List.map eB a1), .v (.int .i64 a2), .v (.int .i64 a3)] (.v (.bool o)) := by
  unfold law7_RunAsks at H
  refine PC.of_T Try.func7 rfl rfl (n := 97) rfl rfl (.inr rfl) ?_
  intro base B w0
  refine T.st (st' := ⟨[(0, .agg [.lst (List.map eSeat a0.Seats), .v (.int .i64 a0.Gap), .v (.int .i64 a0.Radius), .lst (List.map eI a0.Kills), .lst (List.map ePole a0.Poles)]), (1, .lst (List.map eB a1)), (2, .v (.int .i64 a2)), (3, .v (.int .i64 a3))], [], 0, []⟩) rfl ?_
  refine T.seq ?_
  refine T.region ?_
  refine RunT.ot1 (x := .ptr 0 0) (p0 := (0, some (.box [.lst (List.map eSeat a0.Seats), .v (.int .i64 a0.Gap), .v (.int .i64 a0.Radius), .lst (List.map eI a0.Kills), .lst (List.map ePole a0.Poles)]))) (n' := 8) rfl rfl rfl rfl (.boxX rfl rfl rfl) rfl ?_
  refine RunT.ot0 (x := .v (.bool false)) rfl rfl rfl rfl (.assignX rfl) ?_
  refine RunT.nil ?_
  refine T.seq ?_
  obtain ⟨o4, E5, HO6⟩ := bs H
  refine T.cut (⟨[(1, .lst (List.map eB a1)), (2, .v (.int .i64 a2)), (3, .v (.int .i64 a3)), (4, .ptr 0 0), (21, .v (.bool o4))], [(0, some (.box [.lst (List.map eSeat a0.Seats), .v (.int .i64 a0.Gap), .v (.int .i64 a0.Radius), .lst (List.map eI a0.Kills), .lst (List.map ePole a0.Poles)]))], 8, []⟩) ?_ ?_
  · have H := E5
    refine T.region ?_
    refine RunT.ot0 (x := .agg [.lst (List.map eSeat a0.Seats), .v (.int .i64 a0.Gap), .v (.int .i64 a0.Radius), .lst (List.map eI a0.Kills), .lst (List.map ePole a0.Poles)]) rfl rfl rfl rfl (.loadP ty26 rfl rfl rfl) ?_
    obtain ⟨r7, h8, H⟩ := bs H
    refine RunT.ot0 (x := .v (.bool r7)) rfl rfl rfl rfl (.callp (law3_Few_pc false k a0 r7 h8) rfl ⟨(.agg' ⟨.lst, .v, .v, .lst, .lst, trivial⟩), trivial⟩ rfl rfl rfl) ?_
    refine RunT.ot0 (x := .v (.bool (!r7))) rfl rfl rfl rfl (.un rfl (fun w => u_not w) rfl) ?_
    refine RunT.ot0 (x := .v (.bool (!r7))) rfl rfl rfl rfl (.moveX rfl) ?_
    refine RunT.cases (t := 17) (c := !r7) rfl (fun g9 => ?_) (fun g9 => ?_)
    · replace H := ct H g9
      refine RunT.xn rfl rfl rfl (bo g9) rfl rfl ?_
      refine RunT.xn rfl rfl rfl (bo g9) rfl rfl ?_
      refine RunT.xn rfl rfl rfl (bo g9) rfl rfl ?_
      refine RunT.ot0 (x := .v (.bool true)) rfl rfl rfl rfl (.pickT (bo g9) rfl) ?_
      refine RunT.nil ?_
      obtain rfl := si H
      exact (sub_to [some 0] (by decide) rfl rfl (⟨⟨_, rfl, .one .lst⟩, ⟨⟨_, rfl, .one .v⟩, ⟨⟨_, rfl, .one .v⟩, ⟨⟨_, rfl, .one (.ptr rfl)⟩, ⟨⟨_, rfl, .one .v⟩, trivial⟩⟩⟩⟩⟩) (⟨⟨rfl, .inl ⟨_, _, rfl, rfl, .box ⟨.lst, .v, .v, .lst, .lst, trivial⟩⟩⟩, trivial⟩))
    · replace H := cf H g9
      refine RunT.gt0 (x := .lst (List.map eB a1)) rfl rfl rfl (bo g9) rfl rfl (.moveX rfl) ?_
      refine RunT.gt0 (x := .v (.int .i64 (a1.length : Int))) rfl rfl rfl (bo g9) rfl rfl (.lenLm Try.underlying43 rfl rfl) ?_
      refine RunT.gt0 (x := .v (.bool (decide (50 < (a1.length : Int))))) rfl rfl rfl (bo g9) rfl rfl (.bin rfl rfl (fun w => b_gtr w) rfl) ?_
      refine RunT.ot0 (x := .v (.bool (decide (50 < (a1.length : Int))))) rfl rfl rfl rfl (.pickF (bo g9) rfl) ?_
      refine RunT.nil ?_
      obtain rfl := si H
      exact (sub_to [some 0] (by decide) rfl rfl (⟨⟨_, rfl, .one .lst⟩, ⟨⟨_, rfl, .one .v⟩, ⟨⟨_, rfl, .one .v⟩, ⟨⟨_, rfl, .one (.ptr rfl)⟩, ⟨⟨_, rfl, .one .v⟩, trivial⟩⟩⟩⟩⟩) (⟨⟨rfl, .inl ⟨_, _, rfl, rfl, .box ⟨.lst, .v, .v, .lst, .lst, trivial⟩⟩⟩, trivial⟩))
  · have H := HO6
    refine T.cond2 (t := o4) rfl (fun c10 => ?_) (fun c10 => ?_)
    · replace H := ct H c10
      refine T.seq ?_
      refine T.sub (sub_pick [] [] (st' := ⟨[], [], 8, []⟩) rfl rfl rfl rfl rfl) ?_
      refine T.region ?_
      obtain ⟨r11, h12, H⟩ := bs H
      refine RunT.ot0 (x := .v (.bool r11)) rfl rfl rfl rfl (.callp (law7_told_pc false k  r11 h12) rfl trivial rfl rfl rfl) ?_
      refine RunT.ot0 (x := .v (.bool r11)) rfl rfl rfl rfl (.assignX rfl) ?_
      refine RunT.nil ?_
      obtain rfl := si H
      refine T.sub (sub_to (st' := ⟨[(8, .v (.bool r11))], [], 8, []⟩) [] (by decide) rfl rfl (⟨⟨_, rfl, .one .v⟩, trivial⟩) (trivial)) ?_
      refine T.ret ?_
      exact RetOk.same [.v (.bool r11)] ⟨rfl, trivial⟩ rfl rfl rfl
    · replace H := cf H c10
      refine T.skip ?_
      refine T.seq ?_
      refine T.seq ?_
      refine T.region ?_
      refine RunT.ot0 (x := .v (.int .i64 0)) rfl rfl rfl rfl (.assignX rfl) ?_
      refine RunT.nil ?_
      obtain ⟨o70, E71, HO72⟩ := bs H
      refine T.cutPE (fun v73 => o70 = .go v73) (fun v73 => ⟨[], [], 8, []⟩) ?_ ?_
      · have H := E71
        refine T.block ?_
        refine T.loopS (fun n s => ∃ (v74 : Int) (v75 : Int) (v76 : Int), law7_RunAsks_l0 k a0 a1 n v74 v75 v76 = some o70 ∧ s = ⟨[(1, .lst (List.map eB a1)), (2, .v (.int .i64 v74)), (3, .v (.int .i64 v75)), (4, .ptr 0 0), (9, .v (.int .i64 v76))], [(0, some (.box [.lst (List.map eSeat a0.Seats), .v (.int .i64 a0.Gap), .v (.int .i64 a0.Radius), .lst (List.map eI a0.Kills), .lst (List.map ePole a0.Poles)]))], 8, []⟩) k ⟨_, ⟨a2, a3, 0, H, rfl⟩, sub_to [some 0] (by decide) rfl rfl (⟨⟨_, rfl, .one .lst⟩, ⟨⟨_, rfl, .one .v⟩, ⟨⟨_, rfl, .one .v⟩, ⟨⟨_, rfl, .one (.ptr rfl)⟩, ⟨⟨_, rfl, .one .v⟩, trivial⟩⟩⟩⟩⟩) (⟨⟨rfl, .inl ⟨_, _, rfl, rfl, .box ⟨.lst, .v, .v, .lst, .lst, trivial⟩⟩⟩, trivial⟩)⟩ ?_
        rintro n s ⟨v74, v75, v76, H, rfl⟩
        rcases n with _ | n
        · cases (show none = some _ from H)
        rw [law7_RunAsks_l0] at H
        refine T.seq ?_
        refine T.seq ?_
        refine T.region ?_
        refine RunT.ot0 (x := .v (.int .i64 v76)) rfl rfl rfl rfl (.moveX rfl) ?_
        refine RunT.ot0 (x := .v (.bool (decide (v76 < 2)))) rfl rfl rfl rfl (.bin rfl rfl (fun w => b_lss w) rfl) ?_
        refine RunT.nil ?_
        refine T.cond2 (t := decide (v76 < 2)) rfl (fun c77 => ?_) (fun c77 => ?_)
        · replace H := ct H c77
          refine T.skip ?_
          refine T.seq ?_
          refine T.block ?_
          refine T.seq ?_
          refine T.region ?_
          refine RunT.ot0 (x := .agg [.lst (List.map eSeat a0.Seats), .v (.int .i64 a0.Gap), .v (.int .i64 a0.Radius), .lst (List.map eI a0.Kills), .lst (List.map ePole a0.Poles)]) rfl rfl rfl rfl (.loadP ty26 rfl rfl rfl) ?_
          refine RunT.ot0 (x := .lst (List.map eB a1)) rfl rfl rfl rfl (.moveX rfl) ?_
          refine RunT.ot0 (x := .v (.int .i64 v74)) rfl rfl rfl rfl (.moveX rfl) ?_
          refine RunT.ot0 (x := .v (.int .i64 v75)) rfl rfl rfl rfl (.moveX rfl) ?_
          obtain ⟨r78, h79, H⟩ := bs H
          refine RunT.ot0 (x := .tup [.lst (List.map eI r78.1), .v (.bool r78.2)]) rfl rfl rfl rfl (.callp (PC.frozen (run_Of_pc false k a0 a1 v74 v75 r78 h79)) rfl ⟨(.agg' ⟨.lst, .v, .v, .lst, .lst, trivial⟩), (.one .lst), (.one .v), (.one .v), trivial⟩ rfl rfl rfl) ?_
          refine RunT.ot0 (x := .tup [.lst (List.map eI r78.1), .v (.bool r78.2)]) rfl rfl rfl rfl (.moveX rfl) ?_
          refine RunT.ot0 (x := .lst (List.map eI r78.1)) rfl rfl rfl rfl (.extract rfl rfl) ?_
          refine RunT.ot0 (x := .v (.bool r78.2)) rfl rfl rfl rfl (.extract rfl rfl) ?_
          refine RunT.ot0 (x := .lst (List.map eI r78.1)) rfl rfl rfl rfl (.assignX rfl) ?_
          refine RunT.ot0 (x := .v (.bool r78.2)) rfl rfl rfl rfl (.assignX rfl) ?_
          refine RunT.nil ?_
          refine T.seq ?_
          refine T.region ?_
          refine RunT.ot0 (x := .agg [.lst (List.map eSeat a0.Seats), .v (.int .i64 a0.Gap), .v (.int .i64 a0.Radius), .lst (List.map eI a0.Kills), .lst (List.map ePole a0.Poles)]) rfl rfl rfl rfl (.loadP ty26 rfl rfl rfl) ?_
          refine RunT.ot0 (x := .lst (List.map eB a1)) rfl rfl rfl rfl (.moveX rfl) ?_
          refine RunT.ot0 (x := .v (.int .i64 v74)) rfl rfl rfl rfl (.moveX rfl) ?_
          refine RunT.ot0 (x := .v (.int .i64 v75)) rfl rfl rfl rfl (.moveX rfl) ?_
          obtain ⟨r80, h81, H⟩ := bs H
          refine RunT.ot0 (x := .tup [.lst (List.map eI r80.1), .v (.bool r80.2)]) rfl rfl rfl rfl (.callp (PC.frozen (ref6_Run_pc false k a0 a1 v74 v75 r80 h81)) rfl ⟨(.agg' ⟨.lst, .v, .v, .lst, .lst, trivial⟩), (.one .lst), (.one .v), (.one .v), trivial⟩ rfl rfl rfl) ?_
          refine RunT.ot0 (x := .tup [.lst (List.map eI r80.1), .v (.bool r80.2)]) rfl rfl rfl rfl (.moveX rfl) ?_
          refine RunT.ot0 (x := .lst (List.map eI r80.1)) rfl rfl rfl rfl (.extract rfl rfl) ?_
          refine RunT.ot0 (x := .v (.bool r80.2)) rfl rfl rfl rfl (.extract rfl rfl) ?_
          refine RunT.ot0 (x := .lst (List.map eI r80.1)) rfl rfl rfl rfl (.assignX rfl) ?_
          refine RunT.ot0 (x := .v (.bool r80.2)) rfl rfl rfl rfl (.assignX rfl) ?_
          refine RunT.nil ?_
          refine T.seq ?_
          refine T.seq ?_
          refine T.sub (sub_pick [1, 2, 3, 4, 9, 10, 11, 12, 13] [0] (st' := ⟨[(1, .lst (List.map eB a1)), (2, .v (.int .i64 v74)), (3, .v (.int .i64 v75)), (4, .ptr 0 0), (9, .v (.int .i64 v76)), (10, .lst (List.map eI r78.1)), (11, .v (.bool r78.2)), (12, .lst (List.map eI r80.1)), (13, .v (.bool r80.2))], [(0, some (.box [.lst (List.map eSeat a0.Seats), .v (.int .i64 a0.Gap), .v (.int .i64 a0.Radius), .lst (List.map eI a0.Kills), .lst (List.map ePole a0.Poles)]))], 8, []⟩) rfl rfl rfl rfl rfl) ?_
          refine T.draw (wr := []) mixed rfl rfl ?_ rfl
          refine RunD.ot0 (x := .agg [.lst (List.map eSeat a0.Seats), .v (.int .i64 a0.Gap), .v (.int .i64 a0.Radius), .lst (List.map eI a0.Kills), .lst (List.map ePole a0.Poles)]) rfl rfl rfl rfl (.loadP ty26 rfl rfl rfl) rfl ?_
          refine RunD.ot0 (x := .v (.int .i64 v74)) rfl rfl rfl rfl (.moveX rfl) rfl ?_
          obtain ⟨r102, h103, H⟩ := bs H
          refine RunD.ot0 (x := .v (.bool r102)) rfl rfl rfl rfl (.callp (run_Next_pc false k a0 v74 r102 h103) rfl ⟨(.agg' ⟨.lst, .v, .v, .lst, .lst, trivial⟩), (.one .v), trivial⟩ rfl rfl rfl) rfl ?_
          refine RunD.ot0 (x := .agg [.lst (List.map eSeat a0.Seats), .v (.int .i64 a0.Gap), .v (.int .i64 a0.Radius), .lst (List.map eI a0.Kills), .lst (List.map ePole a0.Poles)]) rfl rfl rfl rfl (.loadP ty26 rfl rfl rfl) rfl ?_
          refine RunD.ot0 (x := .v (.int .i64 v74)) rfl rfl rfl rfl (.moveX rfl) rfl ?_
          obtain ⟨r104, h105, H⟩ := bs H
          refine RunD.ot0 (x := .v (.bool r104)) rfl rfl rfl rfl (.callp (ref6_Next_pc false k a0 v74 r104 h105) rfl ⟨(.agg' ⟨.lst, .v, .v, .lst, .lst, trivial⟩), (.one .v), trivial⟩ rfl rfl rfl) rfl ?_
          refine RunD.ot0 (x := .v (.bool (!(r102 == r104)))) rfl rfl rfl rfl (.bin rfl rfl (fun w => b_neB w Try.underlying4) rfl) rfl ?_
          refine RunD.ot0 (x := .v (.bool (!(r102 == r104)))) rfl rfl rfl rfl (.moveX rfl) rfl ?_
          refine RunD.cases (t := 50) (c := !(r102 == r104)) rfl (fun g106 => ?_) (fun g106 => ?_)
          · replace H := ct H g106
            refine RunD.xn rfl rfl rfl (bo g106) rfl rfl ?_
            refine RunD.xn rfl rfl rfl (bo g106) rfl rfl ?_
            refine RunD.xn rfl rfl rfl (bo g106) rfl rfl ?_
            refine RunD.xn rfl rfl rfl (bo g106) rfl rfl ?_
            refine RunD.xn rfl rfl rfl (bo g106) rfl rfl ?_
            refine RunD.xn rfl rfl rfl (bo g106) rfl rfl ?_
            refine RunD.xn rfl rfl rfl (bo g106) rfl rfl ?_
            refine RunD.xn rfl rfl rfl (bo g106) rfl rfl ?_
            refine RunD.xn rfl rfl rfl (bo g106) rfl rfl ?_
            refine RunD.ot0 (x := .v (.bool true)) rfl rfl rfl rfl (.pickT (bo g106) rfl) rfl ?_
            refine RunD.ot0 (x := .v (.bool true)) rfl rfl rfl rfl (.moveX rfl) rfl ?_
            refine RunD.xn rfl rfl rfl rfl rfl rfl ?_
            refine RunD.xn rfl rfl rfl rfl rfl rfl ?_
            refine RunD.xn rfl rfl rfl rfl rfl rfl ?_
            refine RunD.ot0 (x := .v (.bool true)) rfl rfl rfl rfl (.pickT rfl rfl) rfl ?_
            refine RunD.ot0 (x := .v (.bool true)) rfl rfl rfl rfl (.moveX rfl) rfl ?_
            refine RunD.xn rfl rfl rfl rfl rfl rfl ?_
            refine RunD.xn rfl rfl rfl rfl rfl rfl ?_
            refine RunD.xn rfl rfl rfl rfl rfl rfl ?_
            refine RunD.xn rfl rfl rfl rfl rfl rfl ?_
            refine RunD.ot0 (x := .v (.bool true)) rfl rfl rfl rfl (.pickT rfl rfl) rfl ?_
            refine RunD.ot0 (x := .v (.bool true)) rfl rfl rfl rfl (.moveX rfl) rfl ?_
            refine RunD.xn rfl rfl rfl rfl rfl rfl ?_
            refine RunD.xn rfl rfl rfl rfl rfl rfl ?_
            refine RunD.xn rfl rfl rfl rfl rfl rfl ?_
            refine RunD.xn rfl rfl rfl rfl rfl rfl ?_
            refine RunD.xn rfl rfl rfl rfl rfl rfl ?_
            refine RunD.xn rfl rfl rfl rfl rfl rfl ?_
            refine RunD.xn rfl rfl rfl rfl rfl rfl ?_
            refine RunD.xn rfl rfl rfl rfl rfl rfl ?_
            refine RunD.ot0 (x := .v (.bool true)) rfl rfl rfl rfl (.pickT rfl rfl) rfl ?_
            refine RunD.nil (by kernel_rfl) ⟨rfl, rfl, ?_⟩
            refine T.condT rfl ?_
            refine T.seq ?_
            refine T.sub (sub_pick [] [] (st' := ⟨[], [], 320, []⟩) rfl rfl rfl rfl rfl) ?_
            refine T.region ?_
            refine RunT.ot0 (x := .v (.bool false)) rfl rfl rfl rfl (.assignX rfl) ?_
            refine RunT.nil ?_
            obtain rfl := si H
            have HX := exr HO72
            obtain rfl := si HX
            refine T.sub (sub_to (st' := ⟨[(8, .v (.bool false))], [], 8, []⟩) [] (by decide) rfl rfl (⟨⟨_, rfl, .one .v⟩, trivial⟩) (trivial)) ?_
            refine T.ret ?_
            exact RetOk.same [.v (.bool false)] ⟨rfl, trivial⟩ rfl rfl rfl
          · replace H := cf H g106
            refine RunD.gt0 (x := .agg [.lst (List.map eSeat a0.Seats), .v (.int .i64 a0.Gap), .v (.int .i64 a0.Radius), .lst (List.map eI a0.Kills), .lst (List.map ePole a0.Poles)]) rfl rfl rfl (bo g106) rfl rfl (.loadP ty26 rfl rfl rfl) rfl ?_
            refine RunD.gt0 (x := .lst (List.map eB a1)) rfl rfl rfl (bo g106) rfl rfl (.moveX rfl) rfl ?_
            refine RunD.gt0 (x := .v (.int .i64 v74)) rfl rfl rfl (bo g106) rfl rfl (.moveX rfl) rfl ?_
            obtain ⟨r107, h108, H⟩ := bs H
            refine RunD.gt0 (x := .v (.int .i64 r107)) rfl rfl rfl (bo g106) rfl rfl (.callp (run_Long_pc false k a0 a1 v74 r107 h108) rfl ⟨(.agg' ⟨.lst, .v, .v, .lst, .lst, trivial⟩), (.one .lst), (.one .v), trivial⟩ rfl rfl rfl) rfl ?_
            refine RunD.gt0 (x := .agg [.lst (List.map eSeat a0.Seats), .v (.int .i64 a0.Gap), .v (.int .i64 a0.Radius), .lst (List.map eI a0.Kills), .lst (List.map ePole a0.Poles)]) rfl rfl rfl (bo g106) rfl rfl (.loadP ty26 rfl rfl rfl) rfl ?_
            refine RunD.gt0 (x := .lst (List.map eB a1)) rfl rfl rfl (bo g106) rfl rfl (.moveX rfl) rfl ?_
            refine RunD.gt0 (x := .v (.int .i64 v74)) rfl rfl rfl (bo g106) rfl rfl (.moveX rfl) rfl ?_
            obtain ⟨r109, h110, H⟩ := bs H
            refine RunD.gt0 (x := .v (.int .i64 r109)) rfl rfl rfl (bo g106) rfl rfl (.callp (ref6_Long_pc false k a0 a1 v74 r109 h110) rfl ⟨(.agg' ⟨.lst, .v, .v, .lst, .lst, trivial⟩), (.one .lst), (.one .v), trivial⟩ rfl rfl rfl) rfl ?_
            refine RunD.gt0 (x := .v (.bool (!decide (r107 = r109)))) rfl rfl rfl (bo g106) rfl rfl (.bin rfl rfl (fun w => b_neq w) rfl) rfl ?_
            refine RunD.ot0 (x := .v (.bool (!decide (r107 = r109)))) rfl rfl rfl rfl (.pickF (bo g106) rfl) rfl ?_
            refine RunD.ot0 (x := .v (.bool (!decide (r107 = r109)))) rfl rfl rfl rfl (.moveX rfl) rfl ?_
            refine RunD.cases (t := 61) (c := !decide (r107 = r109)) rfl (fun g111 => ?_) (fun g111 => ?_)
            · replace H := ct H g111
              refine RunD.xn rfl rfl rfl (bo g111) rfl rfl ?_
              refine RunD.xn rfl rfl rfl (bo g111) rfl rfl ?_
              refine RunD.xn rfl rfl rfl (bo g111) rfl rfl ?_
              refine RunD.ot0 (x := .v (.bool true)) rfl rfl rfl rfl (.pickT (bo g111) rfl) rfl ?_
              refine RunD.ot0 (x := .v (.bool true)) rfl rfl rfl rfl (.moveX rfl) rfl ?_
              refine RunD.xn rfl rfl rfl rfl rfl rfl ?_
              refine RunD.xn rfl rfl rfl rfl rfl rfl ?_
              refine RunD.xn rfl rfl rfl rfl rfl rfl ?_
              refine RunD.xn rfl rfl rfl rfl rfl rfl ?_
              refine RunD.ot0 (x := .v (.bool true)) rfl rfl rfl rfl (.pickT rfl rfl) rfl ?_
              refine RunD.ot0 (x := .v (.bool true)) rfl rfl rfl rfl (.moveX rfl) rfl ?_
              refine RunD.xn rfl rfl rfl rfl rfl rfl ?_
              refine RunD.xn rfl rfl rfl rfl rfl rfl ?_
              refine RunD.xn rfl rfl rfl rfl rfl rfl ?_
              refine RunD.xn rfl rfl rfl rfl rfl rfl ?_
              refine RunD.xn rfl rfl rfl rfl rfl rfl ?_
              refine RunD.xn rfl rfl rfl rfl rfl rfl ?_
              refine RunD.xn rfl rfl rfl rfl rfl rfl ?_
              refine RunD.xn rfl rfl rfl rfl rfl rfl ?_
              refine RunD.ot0 (x := .v (.bool true)) rfl rfl rfl rfl (.pickT rfl rfl) rfl ?_
              refine RunD.nil (by kernel_rfl) ⟨rfl, rfl, ?_⟩
              refine T.condT rfl ?_
              refine T.seq ?_
              refine T.sub (sub_pick [] [] (st' := ⟨[], [], 320, []⟩) rfl rfl rfl rfl rfl) ?_
              refine T.region ?_
              refine RunT.ot0 (x := .v (.bool false)) rfl rfl rfl rfl (.assignX rfl) ?_
              refine RunT.nil ?_
              obtain rfl := si H
              have HX := exr HO72
              obtain rfl := si HX
              refine T.sub (sub_to (st' := ⟨[(8, .v (.bool false))], [], 8, []⟩) [] (by decide) rfl rfl (⟨⟨_, rfl, .one .v⟩, trivial⟩) (trivial)) ?_
              refine T.ret ?_
              exact RetOk.same [.v (.bool false)] ⟨rfl, trivial⟩ rfl rfl rfl
            · replace H := cf H g111
              refine RunD.gt0 (x := .v (.bool r78.2)) rfl rfl rfl (bo g111) rfl rfl (.moveX rfl) rfl ?_
              refine RunD.gt0 (x := .v (.bool r80.2)) rfl rfl rfl (bo g111) rfl rfl (.moveX rfl) rfl ?_
              refine RunD.gt0 (x := .v (.bool (!(r78.2 == r80.2)))) rfl rfl rfl (bo g111) rfl rfl (.bin rfl rfl (fun w => b_neB w Try.underlying4) rfl) rfl ?_
              refine RunD.ot0 (x := .v (.bool (!(r78.2 == r80.2)))) rfl rfl rfl rfl (.pickF (bo g111) rfl) rfl ?_
              refine RunD.ot0 (x := .v (.bool (!(r78.2 == r80.2)))) rfl rfl rfl rfl (.moveX rfl) rfl ?_
              refine RunD.cases (t := 66) (c := !(r78.2 == r80.2)) rfl (fun g112 => ?_) (fun g112 => ?_)
              · replace H := ct H g112
                refine RunD.xn rfl rfl rfl (bo g112) rfl rfl ?_
                refine RunD.xn rfl rfl rfl (bo g112) rfl rfl ?_
                refine RunD.xn rfl rfl rfl (bo g112) rfl rfl ?_
                refine RunD.xn rfl rfl rfl (bo g112) rfl rfl ?_
                refine RunD.ot0 (x := .v (.bool true)) rfl rfl rfl rfl (.pickT (bo g112) rfl) rfl ?_
                refine RunD.ot0 (x := .v (.bool true)) rfl rfl rfl rfl (.moveX rfl) rfl ?_
                refine RunD.xn rfl rfl rfl rfl rfl rfl ?_
                refine RunD.xn rfl rfl rfl rfl rfl rfl ?_
                refine RunD.xn rfl rfl rfl rfl rfl rfl ?_
                refine RunD.xn rfl rfl rfl rfl rfl rfl ?_
                refine RunD.xn rfl rfl rfl rfl rfl rfl ?_
                refine RunD.xn rfl rfl rfl rfl rfl rfl ?_
                refine RunD.xn rfl rfl rfl rfl rfl rfl ?_
                refine RunD.xn rfl rfl rfl rfl rfl rfl ?_
                refine RunD.ot0 (x := .v (.bool true)) rfl rfl rfl rfl (.pickT rfl rfl) rfl ?_
                refine RunD.nil (by kernel_rfl) ⟨rfl, rfl, ?_⟩
                refine T.condT rfl ?_
                refine T.seq ?_
                refine T.sub (sub_pick [] [] (st' := ⟨[], [], 320, []⟩) rfl rfl rfl rfl rfl) ?_
                refine T.region ?_
                refine RunT.ot0 (x := .v (.bool false)) rfl rfl rfl rfl (.assignX rfl) ?_
                refine RunT.nil ?_
                obtain rfl := si H
                have HX := exr HO72
                obtain rfl := si HX
                refine T.sub (sub_to (st' := ⟨[(8, .v (.bool false))], [], 8, []⟩) [] (by decide) rfl rfl (⟨⟨_, rfl, .one .v⟩, trivial⟩) (trivial)) ?_
                refine T.ret ?_
                exact RetOk.same [.v (.bool false)] ⟨rfl, trivial⟩ rfl rfl rfl
              · replace H := cf H g112
                refine RunD.gt0 (x := .lst (List.map eI r78.1)) rfl rfl rfl (bo g112) rfl rfl (.moveX rfl) rfl ?_
                refine RunD.gt0 (x := .lst (List.map eI r80.1)) rfl rfl rfl (bo g112) rfl rfl (.moveX rfl) rfl ?_
                obtain ⟨r113, h114, H⟩ := bs H
                refine RunD.gt0 (x := .v (.bool r113)) rfl rfl rfl (bo g112) rfl rfl (.callp (ref6_SameInts_pc false k r78.1 r80.1 r113 h114) rfl ⟨(.one .lst), (.one .lst), trivial⟩ rfl rfl rfl) rfl ?_
                refine RunD.gt0 (x := .v (.bool (!r113))) rfl rfl rfl (bo g112) rfl rfl (.un rfl (fun w => u_not w) rfl) rfl ?_
                refine RunD.ot0 (x := .v (.bool (!r113))) rfl rfl rfl rfl (.pickF (bo g112) rfl) rfl ?_
                refine RunD.ot0 (x := .v (.bool (!r113))) rfl rfl rfl rfl (.moveX rfl) rfl ?_
                refine RunD.cases (t := 72) (c := !r113) rfl (fun g115 => ?_) (fun g115 => ?_)
                · replace H := ct H g115
                  refine RunD.xn rfl rfl rfl (bo g115) rfl rfl ?_
                  refine RunD.xn rfl rfl rfl (bo g115) rfl rfl ?_
                  refine RunD.xn rfl rfl rfl (bo g115) rfl rfl ?_
                  refine RunD.xn rfl rfl rfl (bo g115) rfl rfl ?_
                  refine RunD.xn rfl rfl rfl (bo g115) rfl rfl ?_
                  refine RunD.xn rfl rfl rfl (bo g115) rfl rfl ?_
                  refine RunD.xn rfl rfl rfl (bo g115) rfl rfl ?_
                  refine RunD.xn rfl rfl rfl (bo g115) rfl rfl ?_
                  refine RunD.ot0 (x := .v (.bool true)) rfl rfl rfl rfl (.pickT (bo g115) rfl) rfl ?_
                  refine RunD.nil (by kernel_rfl) ⟨rfl, rfl, ?_⟩
                  refine T.condT rfl ?_
                  refine T.seq ?_
                  refine T.sub (sub_pick [] [] (st' := ⟨[], [], 320, []⟩) rfl rfl rfl rfl rfl) ?_
                  refine T.region ?_
                  refine RunT.ot0 (x := .v (.bool false)) rfl rfl rfl rfl (.assignX rfl) ?_
                  refine RunT.nil ?_
                  obtain rfl := si H
                  have HX := exr HO72
                  obtain rfl := si HX
                  refine T.sub (sub_to (st' := ⟨[(8, .v (.bool false))], [], 8, []⟩) [] (by decide) rfl rfl (⟨⟨_, rfl, .one .v⟩, trivial⟩) (trivial)) ?_
                  refine T.ret ?_
                  exact RetOk.same [.v (.bool false)] ⟨rfl, trivial⟩ rfl rfl rfl
                · replace H := cf H g115
                  refine RunD.gt0 (x := .agg [.lst (List.map eSeat a0.Seats), .v (.int .i64 a0.Gap), .v (.int .i64 a0.Radius), .lst (List.map eI a0.Kills), .lst (List.map ePole a0.Poles)]) rfl rfl rfl (bo g115) rfl rfl (.loadP ty26 rfl rfl rfl) rfl ?_
                  refine RunD.gt0 (x := .lst (List.map eB a1)) rfl rfl rfl (bo g115) rfl rfl (.moveX rfl) rfl ?_
                  obtain ⟨r116, h117, H⟩ := bs H
                  refine RunD.gt0 (x := .lst (List.map eLI r116)) rfl rfl rfl (bo g115) rfl rfl (.callp (PC.frozen (run_Runs_pc k a0 a1 r116 h117)) rfl ⟨(.same rfl), (.same rfl), trivial⟩ rfl rfl rfl) rfl ?_
                  refine RunD.gt0 (x := .agg [.lst (List.map eSeat a0.Seats), .v (.int .i64 a0.Gap), .v (.int .i64 a0.Radius), .lst (List.map eI a0.Kills), .lst (List.map ePole a0.Poles)]) rfl rfl rfl (bo g115) rfl rfl (.loadP ty26 rfl rfl rfl) rfl ?_
                  refine RunD.gt0 (x := .lst (List.map eB a1)) rfl rfl rfl (bo g115) rfl rfl (.moveX rfl) rfl ?_
                  obtain ⟨r118, h119, H⟩ := bs H
                  refine RunD.gt0 (x := .lst (List.map eLI r118)) rfl rfl rfl (bo g115) rfl rfl (.callp (PC.frozen (ref6_Runs_pc k a0 a1 r118 h119)) rfl ⟨(.same rfl), (.same rfl), trivial⟩ rfl rfl rfl) rfl ?_
                  obtain ⟨r120, h121, H⟩ := bs H
                  refine RunD.gt0 (x := .v (.bool r120)) rfl rfl rfl (bo g115) rfl rfl (.callp (law7_lists_pc false k r116 r118 r120 h121) rfl ⟨(.one .lst), (.one .lst), trivial⟩ rfl rfl rfl) rfl ?_
                  refine RunD.gt0 (x := .v (.bool (!r120))) rfl rfl rfl (bo g115) rfl rfl (.un rfl (fun w => u_not w) rfl) rfl ?_
                  refine RunD.ot0 (x := .v (.bool (!r120))) rfl rfl rfl rfl (.pickF (bo g115) rfl) rfl ?_
                  refine RunD.nil (by kernel_rfl) ⟨rfl, rfl, ?_⟩
                  refine T.cond2 (t := !r120) rfl (fun c122 => ?_) (fun c122 => ?_)
                  · replace H := ct H c122
                    refine T.seq ?_
                    refine T.sub (sub_pick [] [] (st' := ⟨[], [], 320, []⟩) rfl rfl rfl rfl rfl) ?_
                    refine T.region ?_
                    refine RunT.ot0 (x := .v (.bool false)) rfl rfl rfl rfl (.assignX rfl) ?_
                    refine RunT.nil ?_
                    obtain rfl := si H
                    have HX := exr HO72
                    obtain rfl := si HX
                    refine T.sub (sub_to (st' := ⟨[(8, .v (.bool false))], [], 8, []⟩) [] (by decide) rfl rfl (⟨⟨_, rfl, .one .v⟩, trivial⟩) (trivial)) ?_
                    refine T.ret ?_
                    exact RetOk.same [.v (.bool false)] ⟨rfl, trivial⟩ rfl rfl rfl
                  · replace H := cf H c122
                    refine T.skip ?_
                    refine T.region ?_
                    refine RunT.ot0 (x := .v (.int .i64 v74)) rfl rfl rfl rfl (.moveX rfl) ?_
                    refine RunT.ot0 (x := .v (.int .u64 (IntKind.u64.wrap v74))) rfl rfl rfl rfl (.conv rfl (fun w => c_int w ⟨_, Try.underlying3⟩ Try.underlying41) rfl) ?_
                    refine RunT.ot0 (x := .ptr 0 0) rfl rfl rfl rfl (.fieldPX fl26_0 rfl rfl) ?_
                    refine RunT.ot0 (x := .lst (List.map eSeat a0.Seats)) rfl rfl rfl rfl (.loadP ty22 rfl rfl rfl) ?_
                    refine RunT.ot0 (x := .v (.int .i64 (a0.Seats.length : Int))) rfl rfl rfl rfl (.lenLm Try.underlying22 rfl rfl) ?_
                    refine RunT.ot0 (x := .v (.int .i64 (wr ((a0.Seats.length : Int) + 1)))) rfl rfl rfl rfl (.bin rfl rfl (fun w => b_addw w) rfl) ?_
                    refine RunT.ot0 (x := .v (.int .u64 (IntKind.u64.wrap (wr ((a0.Seats.length : Int) + 1))))) rfl rfl rfl rfl (.conv rfl (fun w => c_int w ⟨_, Try.underlying3⟩ Try.underlying41) rfl) ?_
                    obtain ⟨h123, H⟩ := gs H
                    refine RunT.ot0 (x := .v (.int .u64 ((IntKind.u64.wrap v74).tmod (IntKind.u64.wrap (wr ((a0.Seats.length : Int) + 1)))))) rfl rfl rfl rfl (.bin rfl rfl (fun w => b_rem w (of_decide_eq_true h123)) rfl) ?_
                    refine RunT.ot0 (x := .v (.int .i64 (wr ((IntKind.u64.wrap v74).tmod (IntKind.u64.wrap (wr ((a0.Seats.length : Int) + 1))))))) rfl rfl rfl rfl (.conv rfl (fun w => c_intw w ⟨_, Try.underlying41⟩ Try.underlying3) rfl) ?_
                    refine RunT.ot0 (x := .v (.int .i64 v75)) rfl rfl rfl rfl (.moveX rfl) ?_
                    refine RunT.ot0 (x := .v (.int .u64 (IntKind.u64.wrap v75))) rfl rfl rfl rfl (.conv rfl (fun w => c_int w ⟨_, Try.underlying3⟩ Try.underlying41) rfl) ?_
                    refine RunT.ot0 (x := .v (.int .u64 ((IntKind.u64.wrap v75).tmod 6))) rfl rfl rfl rfl (.bin rfl rfl (fun w => b_rem w (by decide)) rfl) ?_
                    refine RunT.ot0 (x := .v (.int .i64 (wr ((IntKind.u64.wrap v75).tmod 6)))) rfl rfl rfl rfl (.conv rfl (fun w => c_intw w ⟨_, Try.underlying41⟩ Try.underlying3) rfl) ?_
                    refine RunT.ot0 (x := .v (.int .i64 (wr (1 + (wr ((IntKind.u64.wrap v75).tmod 6)))))) rfl rfl rfl rfl (.bin rfl rfl (fun w => b_addw w) rfl) ?_
                    refine RunT.ot0 (x := .v (.int .i64 (wr ((IntKind.u64.wrap v74).tmod (IntKind.u64.wrap (wr ((a0.Seats.length : Int) + 1))))))) rfl rfl rfl rfl (.assignX rfl) ?_
                    refine RunT.ot0 (x := .v (.int .i64 (wr (1 + (wr ((IntKind.u64.wrap v75).tmod 6)))))) rfl rfl rfl rfl (.assignX rfl) ?_
                    refine RunT.nil ?_
                    refine T.sub (sub_pick [1, 2, 3, 4, 9] [0] (st' := ⟨[(1, .lst (List.map eB a1)), (2, .v (.int .i64 (wr ((IntKind.u64.wrap v74).tmod (IntKind.u64.wrap (wr ((a0.Seats.length : Int) + 1))))))), (3, .v (.int .i64 (wr (1 + (wr ((IntKind.u64.wrap v75).tmod 6)))))), (4, .ptr 0 0), (9, .v (.int .i64 v76))], [(0, some (.box [.lst (List.map eSeat a0.Seats), .v (.int .i64 a0.Gap), .v (.int .i64 a0.Radius), .lst (List.map eI a0.Kills), .lst (List.map ePole a0.Poles)]))], 320, []⟩) rfl rfl rfl rfl rfl) ?_
                    refine T.region ?_
                    refine RunT.ot0 (x := .v (.int .i64 v76)) rfl rfl rfl rfl (.moveX rfl) ?_
                    refine RunT.ot0 (x := .v (.int .i64 (wr (v76 + 1)))) rfl rfl rfl rfl (.bin rfl rfl (fun w => b_addw w) rfl) ?_
                    refine RunT.ot0 (x := .v (.int .i64 (wr (v76 + 1)))) rfl rfl rfl rfl (.assignX rfl) ?_
                    refine RunT.nil ?_
                    exact ⟨n, Nat.lt_succ_self n, _, ⟨wr ((IntKind.u64.wrap v74).tmod (IntKind.u64.wrap (wr ((a0.Seats.length : Int) + 1)))), wr (1 + (wr ((IntKind.u64.wrap v75).tmod 6))), wr (v76 + 1), H, rfl⟩, (sub_to [some 0] (by decide) rfl rfl (⟨⟨_, rfl, .one .lst⟩, ⟨⟨_, rfl, .one .v⟩, ⟨⟨_, rfl, .one .v⟩, ⟨⟨_, rfl, .one (.ptr rfl)⟩, ⟨⟨_, rfl, .one .v⟩, trivial⟩⟩⟩⟩⟩) (⟨⟨rfl, .inl ⟨_, _, rfl, rfl, .box ⟨.lst, .v, .v, .lst, .lst, trivial⟩⟩⟩, trivial⟩))⟩
        · replace H := cf H c77
          refine T.exit ?_
          obtain rfl := si H
          exact ⟨_, rfl, (sub_to [] (by decide) rfl rfl (trivial) (trivial))⟩
      · intro v73 s hR hS
        subst hR
        have H := exg HO72
        refine T.sub hS ?_
        refine T.seq ?_
        refine T.region ?_
        obtain ⟨r124, h125, H⟩ := bs H
        refine RunT.ot0 (x := .v (.bool r124)) rfl rfl rfl rfl (.callp (law7_told_pc false k  r124 h125) rfl trivial rfl rfl rfl) ?_
        refine RunT.ot0 (x := .v (.bool r124)) rfl rfl rfl rfl (.assignX rfl) ?_
        refine RunT.nil ?_
        obtain rfl := si H
        refine T.sub (sub_to (st' := ⟨[(8, .v (.bool r124))], [], 8, []⟩) [] (by decide) rfl rfl (⟨⟨_, rfl, .one .v⟩, trivial⟩) (trivial)) ?_
        refine T.ret ?_
        exact RetOk.same [.v (.bool r124)] ⟨rfl, trivial⟩ rfl rfl rfl
end Go.Proofs.Ytlfpkjlaajfjnaa
