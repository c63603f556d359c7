/- The Go functions come to just what their plain forms come to: one contract each. -/
import Derived.Test.YtlfpkjlaajfjnaaYRunPieces1
set_option linter.unusedVariables false
set_option linter.unusedSimpArgs false
set_option maxRecDepth 100000
namespace Go.Proofs.Ytlfpkjlaajfjnaa
open Go Go.Sh Go.Px
attribute [local irreducible] Go.Sh.T Go.Sh.RunT Go.Sh.RunD
set_option maxHeartbeats 4000000 in
theorem law7_RunPieces_pc (al : Bool) (k : Nat) (a0 : (List Int)) (a1 : (List Bool)) (o : Bool) (H : law7_RunPieces k a0 a1 = some o) : PC Try.prog al 8 [.lst (List.map eI a0), .lst (List.map eB a1)] (.v (.bool o)) := by
  unfold law7_RunPieces at H
  refine PC.of_T Try.func8 rfl rfl (n := 148) rfl rfl (.inr rfl) ?_
  intro base B w0
  refine T.st (st' := ⟨[(0, .lst (List.map eI a0)), (1, .lst (List.map eB a1))], [], 0, []⟩) rfl ?_
  refine T.seq ?_
  refine T.region ?_
  refine RunT.ot0 (x := .v (.bool false)) rfl rfl rfl rfl (.assignX rfl) ?_
  refine RunT.nil ?_
  refine T.seq ?_
  refine T.region ?_
  refine RunT.ot0 (x := .lst (List.map eI a0)) rfl rfl rfl rfl (.moveX rfl) ?_
  obtain ⟨r1, h2, H⟩ := bs H
  refine RunT.ot0 (x := .agg [.lst (List.map eSeat r1.Seats), .v (.int .i64 r1.Gap), .v (.int .i64 r1.Radius), .lst (List.map eI r1.Kills), .lst (List.map ePole r1.Poles)]) rfl rfl rfl rfl (.callp (PC.frozen (law3_Make_pc false k a0 30 r1 h2)) rfl ⟨(.one .lst), (.one .v), trivial⟩ rfl rfl rfl) ?_
  refine RunT.ot1 (x := .ptr 0 0) (p0 := (0, some (.box [.v (.slice none 0 0), .v (.int .i64 0), .v (.int .i64 0), .v (.slice none 0 0), .v (.slice none 0 0)]))) (n' := 8) rfl rfl rfl rfl (.allocX in26.zero rfl rfl) rfl ?_
  refine RunT.on1 (x := .junk) (p0 := (0, some (.box [.lst (List.map eSeat r1.Seats), .v (.int .i64 r1.Gap), .v (.int .i64 r1.Radius), .lst (List.map eI r1.Kills), .lst (List.map ePole r1.Poles)]))) (n' := 16) rfl rfl rfl (.storePX ty26 rfl rfl rfl rfl rfl rfl rfl) rfl ?_
  refine RunT.nil ?_
  refine T.seq ?_
  refine T.region ?_
  refine RunT.ot0 (x := .agg [.lst (List.map eSeat r1.Seats), .v (.int .i64 r1.Gap), .v (.int .i64 r1.Radius), .lst (List.map eI r1.Kills), .lst (List.map ePole r1.Poles)]) rfl rfl rfl rfl (.loadP ty26 rfl rfl rfl) ?_
  refine RunT.ot0 (x := .lst (List.map eB a1)) rfl rfl rfl rfl (.moveX rfl) ?_
  obtain ⟨r3, h4, H⟩ := bs H
  refine RunT.ot0 (x := .lst (List.map eLI r3)) rfl rfl rfl rfl (.callp (PC.frozen (run_Runs_pc k r1 a1 r3 h4)) rfl ⟨(.same rfl), (.same rfl), trivial⟩ rfl rfl rfl) ?_
  refine RunT.ot0 (x := .lst (List.map eLI r3)) rfl rfl rfl rfl (.assignX rfl) ?_
  refine RunT.nil ?_
  refine T.seq ?_
  refine T.region ?_
  refine RunT.ot1 (x := .ptr 16 0) (p0 := (16, some (.box (List.map eI (List.replicate 40 0))))) (n' := 24) rfl rfl rfl rfl (.allocAX (N := 40) (z := 0) (f := eI) in51.zero rfl rfl) rfl ?_
  refine RunT.nil ?_
  refine T.seq ?_
  refine T.region ?_
  refine RunT.ot0 (x := .v (.int .i64 (-1))) rfl rfl rfl rfl (.assignX rfl) ?_
  refine RunT.nil ?_
  refine T.seq ?_
  refine T.seq ?_
  refine T.region ?_
  refine RunT.ot0 (x := .v (.int .i64 0)) rfl rfl rfl rfl (.assignX rfl) ?_
  refine RunT.nil ?_
  obtain ⟨o276, E277, HO278⟩ := bs H
  refine T.cutPE (fun v279 => o276 = .go v279) (fun v279 => ⟨[(1, .lst (List.map eB a1)), (5, .ptr 0 0), (7, .ptr 1 0)], [(0, some (.box [.lst (List.map eSeat r1.Seats), .v (.int .i64 r1.Gap), .v (.int .i64 r1.Radius), .lst (List.map eI r1.Kills), .lst (List.map ePole r1.Poles)])), (1, some (.box (List.map eI v279)))], 8, []⟩) ?_ ?_
  · have H := E277
    refine T.block ?_
    refine T.loopS (fun n s => ∃ (v280 : (List Int)) (v281 : Int) (v282 : Int), law7_RunPieces_l2 k a1 r1 r3 n v280 v281 v282 = some o276 ∧ s = ⟨[(1, .lst (List.map eB a1)), (5, .ptr 0 0), (6, .lst (List.map eLI r3)), (7, .ptr 1 0), (8, .v (.int .i64 v281)), (9, .v (.int .i64 v282))], [(0, some (.box [.lst (List.map eSeat r1.Seats), .v (.int .i64 r1.Gap), .v (.int .i64 r1.Radius), .lst (List.map eI r1.Kills), .lst (List.map ePole r1.Poles)])), (1, some (.box (List.map eI v280)))], 8, []⟩) k ⟨_, ⟨List.replicate 40 0, (-1), 0, H, rfl⟩, sub_to [some 0, some 16] (by decide) rfl rfl (⟨⟨_, rfl, .one .lst⟩, ⟨⟨_, rfl, .one (.ptr rfl)⟩, ⟨⟨_, rfl, .one .lst⟩, ⟨⟨_, rfl, .one (.ptr rfl)⟩, ⟨⟨_, rfl, .one .v⟩, ⟨⟨_, rfl, .one .v⟩, trivial⟩⟩⟩⟩⟩⟩) (⟨⟨rfl, .inl ⟨_, _, rfl, rfl, .box ⟨.lst, .v, .v, .lst, .lst, trivial⟩⟩⟩, ⟨⟨rfl, .inl ⟨_, _, rfl, rfl, .boxL ro_I⟩⟩, trivial⟩⟩)⟩ ?_
    rintro n s ⟨v280, v281, v282, H, rfl⟩
    rcases n with _ | n
    · cases (show none = some _ from H)
    rw [law7_RunPieces_l2] at H
    refine T.seq ?_
    refine T.seq ?_
    refine T.region ?_
    refine RunT.ot0 (x := .v (.int .i64 v282)) rfl rfl rfl rfl (.moveX rfl) ?_
    refine RunT.ot0 (x := .lst (List.map eLI r3)) rfl rfl rfl rfl (.moveX rfl) ?_
    refine RunT.ot0 (x := .v (.int .i64 (r3.length : Int))) rfl rfl rfl rfl (.lenLm Try.underlying35 rfl rfl) ?_
    refine RunT.ot0 (x := .v (.bool (decide (v282 < (r3.length : Int))))) rfl rfl rfl rfl (.bin rfl rfl (fun w => b_lss w) rfl) ?_
    refine RunT.nil ?_
    refine T.cond2 (t := decide (v282 < (r3.length : Int))) rfl (fun c283 => ?_) (fun c283 => ?_)
    · replace H := ct H c283
      refine T.skip ?_
      refine T.seq ?_
      refine T.block ?_
      refine T.seq ?_
      obtain ⟨o295, E296, HO297⟩ := bs H
      refine T.cut (⟨[(1, .lst (List.map eB a1)), (5, .ptr 0 0), (6, .lst (List.map eLI r3)), (7, .ptr 1 0), (8, .v (.int .i64 v281)), (9, .v (.int .i64 v282)), (48, .v (.bool o295))], [(0, some (.box [.lst (List.map eSeat r1.Seats), .v (.int .i64 r1.Gap), .v (.int .i64 r1.Radius), .lst (List.map eI r1.Kills), .lst (List.map ePole r1.Poles)])), (1, some (.box (List.map eI v280)))], 8, []⟩) ?_ ?_
      · have H := E296
        refine T.sub (sub_pick [1, 5, 6, 7, 8, 9] [0, 1] (st' := ⟨[(1, .lst (List.map eB a1)), (5, .ptr 0 0), (6, .lst (List.map eLI r3)), (7, .ptr 1 0), (8, .v (.int .i64 v281)), (9, .v (.int .i64 v282))], [(0, some (.box [.lst (List.map eSeat r1.Seats), .v (.int .i64 r1.Gap), .v (.int .i64 r1.Radius), .lst (List.map eI r1.Kills), .lst (List.map ePole r1.Poles)])), (1, some (.box (List.map eI v280)))], 8, []⟩) rfl rfl rfl rfl rfl) ?_
        refine T.draw (wr := []) mixed rfl rfl ?_ rfl
        refine RunD.ot0 (x := .lst (List.map eLI r3)) rfl rfl rfl rfl (.moveX rfl) rfl ?_
        refine RunD.ot0 (x := .v (.int .i64 v282)) rfl rfl rfl rfl (.moveX rfl) rfl ?_
        obtain ⟨y309, h310, H⟩ := bs H
        refine RunD.ot0 (x := .rptr [.lst (List.map eI y309)]) rfl rfl rfl rfl (.idxLX h310 enc_LI sl35 rfl rfl rfl) rfl ?_
        refine RunD.ot0 (x := .lst (List.map eI y309)) rfl rfl rfl rfl (.loadR ty23 rfl rfl) rfl ?_
        refine RunD.ot0 (x := .v (.int .i64 (y309.length : Int))) rfl rfl rfl rfl (.lenLm Try.underlying23 rfl rfl) rfl ?_
        refine RunD.ot0 (x := .v (.bool (decide ((y309.length : Int) = 0)))) rfl rfl rfl rfl (.bin rfl rfl (fun w => b_eql w) rfl) rfl ?_
        refine RunD.ot0 (x := .v (.bool (decide ((y309.length : Int) = 0)))) rfl rfl rfl rfl (.moveX rfl) rfl ?_
        refine RunD.cases (t := 32) (c := decide ((y309.length : Int) = 0)) rfl (fun g311 => ?_) (fun g311 => ?_)
        · replace H := ct H g311
          refine RunD.xn rfl rfl rfl (bo g311) rfl rfl ?_
          refine RunD.xn rfl rfl rfl (bo g311) rfl rfl ?_
          refine RunD.xn rfl rfl rfl (bo g311) rfl rfl ?_
          refine RunD.xn rfl rfl rfl (bo g311) rfl rfl ?_
          refine RunD.xn rfl rfl rfl (bo g311) rfl rfl ?_
          refine RunD.xn rfl rfl rfl (bo g311) rfl rfl ?_
          refine RunD.xn rfl rfl rfl (bo g311) rfl rfl ?_
          refine RunD.xn rfl rfl rfl (bo g311) rfl rfl ?_
          refine RunD.xn rfl rfl rfl (bo g311) rfl rfl ?_
          refine RunD.xn rfl rfl rfl (bo g311) rfl rfl ?_
          refine RunD.xn rfl rfl rfl (bo g311) rfl rfl ?_
          refine RunD.xn rfl rfl rfl (bo g311) rfl rfl ?_
          refine RunD.xn rfl rfl rfl (bo g311) rfl rfl ?_
          refine RunD.xn rfl rfl rfl (bo g311) rfl rfl ?_
          refine RunD.xn rfl rfl rfl (bo g311) rfl rfl ?_
          refine RunD.ot0 (x := .v (.bool true)) rfl rfl rfl rfl (.pickT (bo g311) rfl) rfl ?_
          refine RunD.nil (by kernel_rfl) ⟨rfl, rfl, ?_⟩
          obtain rfl := si H
          exact (sub_to [some 0, some 1] (by decide) rfl rfl (⟨⟨_, rfl, .one .lst⟩, ⟨⟨_, rfl, .one (.ptr rfl)⟩, ⟨⟨_, rfl, .one .lst⟩, ⟨⟨_, rfl, .one (.ptr rfl)⟩, ⟨⟨_, rfl, .one .v⟩, ⟨⟨_, rfl, .one .v⟩, ⟨⟨_, rfl, .one .v⟩, trivial⟩⟩⟩⟩⟩⟩⟩) (⟨⟨rfl, .inl ⟨_, _, rfl, rfl, .box ⟨.lst, .v, .v, .lst, .lst, trivial⟩⟩⟩, ⟨⟨rfl, .inl ⟨_, _, rfl, rfl, .boxL ro_I⟩⟩, trivial⟩⟩))
        · replace H := cf H g311
          refine RunD.gt0 (x := .lst (List.map eLI r3)) rfl rfl rfl (bo g311) rfl rfl (.moveX rfl) rfl ?_
          refine RunD.gt0 (x := .v (.int .i64 v282)) rfl rfl rfl (bo g311) rfl rfl (.moveX rfl) rfl ?_
          obtain ⟨y312, h313, H⟩ := bs H
          refine RunD.gt0 (x := .rptr [.lst (List.map eI y312)]) rfl rfl rfl (bo g311) rfl rfl (.idxLX h313 enc_LI sl35 rfl rfl rfl) rfl ?_
          refine RunD.gt0 (x := .lst (List.map eI y312)) rfl rfl rfl (bo g311) rfl rfl (.loadR ty23 rfl rfl) rfl ?_
          refine RunD.gt0 (x := .v (.int .i64 (y312.length : Int))) rfl rfl rfl (bo g311) rfl rfl (.lenLm Try.underlying23 rfl rfl) rfl ?_
          refine RunD.gt0 (x := .agg [.lst (List.map eSeat r1.Seats), .v (.int .i64 r1.Gap), .v (.int .i64 r1.Radius), .lst (List.map eI r1.Kills), .lst (List.map ePole r1.Poles)]) rfl rfl rfl (bo g311) rfl rfl (.loadP ty26 rfl rfl rfl) rfl ?_
          refine RunD.gt0 (x := .lst (List.map eB a1)) rfl rfl rfl (bo g311) rfl rfl (.moveX rfl) rfl ?_
          refine RunD.gt0 (x := .lst (List.map eLI r3)) rfl rfl rfl (bo g311) rfl rfl (.moveX rfl) rfl ?_
          refine RunD.gt0 (x := .v (.int .i64 v282)) rfl rfl rfl (bo g311) rfl rfl (.moveX rfl) rfl ?_
          obtain ⟨y314, h315, H⟩ := bs H
          refine RunD.gt0 (x := .rptr [.lst (List.map eI y314)]) rfl rfl rfl (bo g311) rfl rfl (.idxLX h315 enc_LI sl35 rfl rfl rfl) rfl ?_
          refine RunD.gt0 (x := .lst (List.map eI y314)) rfl rfl rfl (bo g311) rfl rfl (.loadR ty23 rfl rfl) rfl ?_
          obtain ⟨y316, h317, H⟩ := bs H
          refine RunD.gt0 (x := .rptr [.v (.int .i64 y316)]) rfl rfl rfl (bo g311) rfl rfl (.idxLX h317 enc_I sl23 rfl rfl rfl) rfl ?_
          refine RunD.gt0 (x := .v (.int .i64 y316)) rfl rfl rfl (bo g311) rfl rfl (.loadR ty3 rfl rfl) rfl ?_
          obtain ⟨r318, h319, H⟩ := bs H
          refine RunD.gt0 (x := .v (.int .i64 r318)) rfl rfl rfl (bo g311) rfl rfl (.callp (run_Long_pc false k r1 a1 y316 r318 h319) rfl ⟨(.agg' ⟨.lst, .v, .v, .lst, .lst, trivial⟩), (.one .lst), (.one .v), trivial⟩ rfl rfl rfl) rfl ?_
          refine RunD.gt0 (x := .v (.bool (!decide ((y312.length : Int) = r318)))) rfl rfl rfl (bo g311) rfl rfl (.bin rfl rfl (fun w => b_neq w) rfl) rfl ?_
          refine RunD.ot0 (x := .v (.bool (!decide ((y312.length : Int) = r318)))) rfl rfl rfl rfl (.pickF (bo g311) rfl) rfl ?_
          refine RunD.nil (by kernel_rfl) ⟨rfl, rfl, ?_⟩
          obtain rfl := si H
          exact (sub_to [some 0, some 1] (by decide) rfl rfl (⟨⟨_, rfl, .one .lst⟩, ⟨⟨_, rfl, .one (.ptr rfl)⟩, ⟨⟨_, rfl, .one .lst⟩, ⟨⟨_, rfl, .one (.ptr rfl)⟩, ⟨⟨_, rfl, .one .v⟩, ⟨⟨_, rfl, .one .v⟩, ⟨⟨_, rfl, .one .v⟩, trivial⟩⟩⟩⟩⟩⟩⟩) (⟨⟨rfl, .inl ⟨_, _, rfl, rfl, .box ⟨.lst, .v, .v, .lst, .lst, trivial⟩⟩⟩, ⟨⟨rfl, .inl ⟨_, _, rfl, rfl, .boxL ro_I⟩⟩, trivial⟩⟩))
      · have H := HO297
        refine T.cond2 (t := o295) rfl (fun c320 => ?_) (fun c320 => ?_)
        · replace H := ct H c320
          refine T.seq ?_
          refine T.sub (sub_pick [] [] (st' := ⟨[], [], 8, []⟩) rfl rfl rfl rfl rfl) ?_
          refine T.region ?_
          refine RunT.ot0 (x := .v (.bool false)) rfl rfl rfl rfl (.assignX rfl) ?_
          refine RunT.nil ?_
          obtain rfl := si H
          have HX := exr HO278
          obtain rfl := si HX
          refine T.sub (sub_to (st' := ⟨[(4, .v (.bool false))], [], 8, []⟩) [] (by decide) rfl rfl (⟨⟨_, rfl, .one .v⟩, trivial⟩) (trivial)) ?_
          refine T.ret ?_
          exact RetOk.same [.v (.bool false)] ⟨rfl, trivial⟩ rfl rfl rfl
        · replace H := cf H c320
          refine T.skip ?_
          refine T.seq ?_
          refine T.seq ?_
          refine T.region ?_
          refine RunT.ot0 (x := .lst (List.map eLI r3)) rfl rfl rfl rfl (.moveX rfl) ?_
          refine RunT.ot0 (x := .v (.int .i64 v282)) rfl rfl rfl rfl (.moveX rfl) ?_
          obtain ⟨y321, h322, H⟩ := bs H
          refine RunT.ot0 (x := .rptr [.lst (List.map eI y321)]) rfl rfl rfl rfl (.idxLX h322 enc_LI sl35 rfl rfl rfl) ?_
          refine RunT.ot0 (x := .lst (List.map eI y321)) rfl rfl rfl rfl (.loadR ty23 rfl rfl) ?_
          obtain ⟨y323, h324, H⟩ := bs H
          refine RunT.ot0 (x := .rptr [.v (.int .i64 y323)]) rfl rfl rfl rfl (.idxLX h324 enc_I sl23 rfl rfl rfl) ?_
          refine RunT.ot0 (x := .v (.int .i64 y323)) rfl rfl rfl rfl (.loadR ty3 rfl rfl) ?_
          refine RunT.ot0 (x := .v (.int .i64 y323)) rfl rfl rfl rfl (.assignX rfl) ?_
          refine RunT.nil ?_
          obtain ⟨o332, E333, HO334⟩ := bs H
          refine T.cut (⟨[(1, .lst (List.map eB a1)), (5, .ptr 0 0), (6, .lst (List.map eLI r3)), (7, .ptr 1 0), (8, .v (.int .i64 v281)), (9, .v (.int .i64 v282)), (76, .v (.bool o332))], [(0, some (.box [.lst (List.map eSeat r1.Seats), .v (.int .i64 r1.Gap), .v (.int .i64 r1.Radius), .lst (List.map eI r1.Kills), .lst (List.map ePole r1.Poles)])), (1, some (.box (List.map eI v280)))], 8, []⟩) ?_ ?_
          · have H := E333
            refine T.sub (sub_pick [1, 5, 6, 7, 8, 9, 10] [0, 1] (st' := ⟨[(1, .lst (List.map eB a1)), (5, .ptr 0 0), (6, .lst (List.map eLI r3)), (7, .ptr 1 0), (8, .v (.int .i64 v281)), (9, .v (.int .i64 v282)), (10, .v (.int .i64 y323))], [(0, some (.box [.lst (List.map eSeat r1.Seats), .v (.int .i64 r1.Gap), .v (.int .i64 r1.Radius), .lst (List.map eI r1.Kills), .lst (List.map ePole r1.Poles)])), (1, some (.box (List.map eI v280)))], 8, []⟩) rfl rfl rfl rfl rfl) ?_
            refine T.region ?_
            refine RunT.ot0 (x := .v (.int .i64 y323)) rfl rfl rfl rfl (.moveX rfl) ?_
            refine RunT.ot0 (x := .v (.bool (decide (0 < y323)))) rfl rfl rfl rfl (.bin rfl rfl (fun w => b_gtr w) rfl) ?_
            refine RunT.ot0 (x := .v (.bool (decide (0 < y323)))) rfl rfl rfl rfl (.moveX rfl) ?_
            refine RunT.cases (t := 57) (c := decide (0 < y323)) rfl (fun g335 => ?_) (fun g335 => ?_)
            · replace H := ct H g335
              refine RunT.gt0 (x := .agg [.lst (List.map eSeat r1.Seats), .v (.int .i64 r1.Gap), .v (.int .i64 r1.Radius), .lst (List.map eI r1.Kills), .lst (List.map ePole r1.Poles)]) rfl rfl rfl (bo g335) rfl rfl (.loadP ty26 rfl rfl rfl) ?_
              refine RunT.gt0 (x := .v (.int .i64 y323)) rfl rfl rfl (bo g335) rfl rfl (.moveX rfl) ?_
              refine RunT.gt0 (x := .v (.int .i64 (wr (y323 - 1)))) rfl rfl rfl (bo g335) rfl rfl (.bin rfl rfl (fun w => b_subw w) rfl) ?_
              obtain ⟨r336, h337, H⟩ := bs H
              refine RunT.gt0 (x := .v (.bool r336)) rfl rfl rfl (bo g335) rfl rfl (.callp (run_Next_pc false k r1 (wr (y323 - 1)) r336 h337) rfl ⟨(.agg' ⟨.lst, .v, .v, .lst, .lst, trivial⟩), (.one .v), trivial⟩ rfl rfl rfl) ?_
              refine RunT.ot0 (x := .v (.bool r336)) rfl rfl rfl rfl (.pickT (bo g335) rfl) ?_
              refine RunT.ot0 (x := .v (.bool r336)) rfl rfl rfl rfl (.moveX rfl) ?_
              refine RunT.cases (t := 63) (c := r336) rfl (fun g338 => ?_) (fun g338 => ?_)
              · replace H := ct H g338
                refine RunT.gt0 (x := .v (.int .i64 y323)) rfl rfl rfl (bo g338) rfl rfl (.moveX rfl) ?_
                refine RunT.gt0 (x := .v (.int .i64 (wr (y323 - 1)))) rfl rfl rfl (bo g338) rfl rfl (.bin rfl rfl (fun w => b_subw w) rfl) ?_
                refine RunT.gt0 (x := .lst (List.map eB a1)) rfl rfl rfl (bo g338) rfl rfl (.moveX rfl) ?_
                refine RunT.gt0 (x := .v (.int .i64 (a1.length : Int))) rfl rfl rfl (bo g338) rfl rfl (.lenLm Try.underlying43 rfl rfl) ?_
                refine RunT.gt0 (x := .v (.bool (decide ((wr (y323 - 1)) < (a1.length : Int))))) rfl rfl rfl (bo g338) rfl rfl (.bin rfl rfl (fun w => b_lss w) rfl) ?_
                refine RunT.ot0 (x := .v (.bool (decide ((wr (y323 - 1)) < (a1.length : Int))))) rfl rfl rfl rfl (.pickT (bo g338) rfl) ?_
                refine RunT.ot0 (x := .v (.bool (decide ((wr (y323 - 1)) < (a1.length : Int))))) rfl rfl rfl rfl (.moveX rfl) ?_
                refine RunT.cases (t := 70) (c := decide ((wr (y323 - 1)) < (a1.length : Int))) rfl (fun g339 => ?_) (fun g339 => ?_)
                · replace H := ct H g339
                  refine RunT.gt0 (x := .lst (List.map eB a1)) rfl rfl rfl (bo g339) rfl rfl (.moveX rfl) ?_
                  refine RunT.gt0 (x := .v (.int .i64 y323)) rfl rfl rfl (bo g339) rfl rfl (.moveX rfl) ?_
                  refine RunT.gt0 (x := .v (.int .i64 (wr (y323 - 1)))) rfl rfl rfl (bo g339) rfl rfl (.bin rfl rfl (fun w => b_subw w) rfl) ?_
                  obtain ⟨y340, h341, H⟩ := bs H
                  refine RunT.gt0 (x := .rptr [.v (.bool y340)]) rfl rfl rfl (bo g339) rfl rfl (.idxLX h341 enc_B sl43 rfl rfl rfl) ?_
                  refine RunT.gt0 (x := .v (.bool y340)) rfl rfl rfl (bo g339) rfl rfl (.loadR ty4 rfl rfl) ?_
                  refine RunT.ot0 (x := .v (.bool y340)) rfl rfl rfl rfl (.pickT (bo g339) rfl) ?_
                  refine RunT.nil ?_
                  obtain rfl := si H
                  exact (sub_to [some 0, some 1] (by decide) rfl rfl (⟨⟨_, rfl, .one .lst⟩, ⟨⟨_, rfl, .one (.ptr rfl)⟩, ⟨⟨_, rfl, .one .lst⟩, ⟨⟨_, rfl, .one (.ptr rfl)⟩, ⟨⟨_, rfl, .one .v⟩, ⟨⟨_, rfl, .one .v⟩, ⟨⟨_, rfl, .one .v⟩, trivial⟩⟩⟩⟩⟩⟩⟩) (⟨⟨rfl, .inl ⟨_, _, rfl, rfl, .box ⟨.lst, .v, .v, .lst, .lst, trivial⟩⟩⟩, ⟨⟨rfl, .inl ⟨_, _, rfl, rfl, .boxL ro_I⟩⟩, trivial⟩⟩))
                · replace H := cf H g339
                  refine RunT.xn rfl rfl rfl (bo g339) rfl rfl ?_
                  refine RunT.xn rfl rfl rfl (bo g339) rfl rfl ?_
                  refine RunT.xn rfl rfl rfl (bo g339) rfl rfl ?_
                  refine RunT.xn rfl rfl rfl (bo g339) rfl rfl ?_
                  refine RunT.xn rfl rfl rfl (bo g339) rfl rfl ?_
                  refine RunT.ot0 (x := .v (.bool false)) rfl rfl rfl rfl (.pickF (bo g339) rfl) ?_
                  refine RunT.nil ?_
                  obtain rfl := si H
                  exact (sub_to [some 0, some 1] (by decide) rfl rfl (⟨⟨_, rfl, .one .lst⟩, ⟨⟨_, rfl, .one (.ptr rfl)⟩, ⟨⟨_, rfl, .one .lst⟩, ⟨⟨_, rfl, .one (.ptr rfl)⟩, ⟨⟨_, rfl, .one .v⟩, ⟨⟨_, rfl, .one .v⟩, ⟨⟨_, rfl, .one .v⟩, trivial⟩⟩⟩⟩⟩⟩⟩) (⟨⟨rfl, .inl ⟨_, _, rfl, rfl, .box ⟨.lst, .v, .v, .lst, .lst, trivial⟩⟩⟩, ⟨⟨rfl, .inl ⟨_, _, rfl, rfl, .boxL ro_I⟩⟩, trivial⟩⟩))
              · replace H := cf H g338
                refine RunT.xn rfl rfl rfl (bo g338) rfl rfl ?_
                refine RunT.xn rfl rfl rfl (bo g338) rfl rfl ?_
                refine RunT.xn rfl rfl rfl (bo g338) rfl rfl ?_
                refine RunT.xn rfl rfl rfl (bo g338) rfl rfl ?_
                refine RunT.xn rfl rfl rfl (bo g338) rfl rfl ?_
                refine RunT.ot0 (x := .v (.bool false)) rfl rfl rfl rfl (.pickF (bo g338) rfl) ?_
                refine RunT.ot0 (x := .v (.bool false)) rfl rfl rfl rfl (.moveX rfl) ?_
                refine RunT.xn rfl rfl rfl rfl rfl rfl ?_
                refine RunT.xn rfl rfl rfl rfl rfl rfl ?_
                refine RunT.xn rfl rfl rfl rfl rfl rfl ?_
                refine RunT.xn rfl rfl rfl rfl rfl rfl ?_
                refine RunT.xn rfl rfl rfl rfl rfl rfl ?_
                refine RunT.ot0 (x := .v (.bool false)) rfl rfl rfl rfl (.pickF rfl rfl) ?_
                refine RunT.nil ?_
                obtain rfl := si H
                exact (sub_to [some 0, some 1] (by decide) rfl rfl (⟨⟨_, rfl, .one .lst⟩, ⟨⟨_, rfl, .one (.ptr rfl)⟩, ⟨⟨_, rfl, .one .lst⟩, ⟨⟨_, rfl, .one (.ptr rfl)⟩, ⟨⟨_, rfl, .one .v⟩, ⟨⟨_, rfl, .one .v⟩, ⟨⟨_, rfl, .one .v⟩, trivial⟩⟩⟩⟩⟩⟩⟩) (⟨⟨rfl, .inl ⟨_, _, rfl, rfl, .box ⟨.lst, .v, .v, .lst, .lst, trivial⟩⟩⟩, ⟨⟨rfl, .inl ⟨_, _, rfl, rfl, .boxL ro_I⟩⟩, trivial⟩⟩))
            · replace H := cf H g335
              refine RunT.xn rfl rfl rfl (bo g335) rfl rfl ?_
              refine RunT.xn rfl rfl rfl (bo g335) rfl rfl ?_
              refine RunT.xn rfl rfl rfl (bo g335) rfl rfl ?_
              refine RunT.xn rfl rfl rfl (bo g335) rfl rfl ?_
              refine RunT.ot0 (x := .v (.bool false)) rfl rfl rfl rfl (.pickF (bo g335) rfl) ?_
              refine RunT.ot0 (x := .v (.bool false)) rfl rfl rfl rfl (.moveX rfl) ?_
              refine RunT.xn rfl rfl rfl rfl rfl rfl ?_
              refine RunT.xn rfl rfl rfl rfl rfl rfl ?_
              refine RunT.xn rfl rfl rfl rfl rfl rfl ?_
              refine RunT.xn rfl rfl rfl rfl rfl rfl ?_
              refine RunT.xn rfl rfl rfl rfl rfl rfl ?_
              refine RunT.ot0 (x := .v (.bool false)) rfl rfl rfl rfl (.pickF rfl rfl) ?_
              refine RunT.ot0 (x := .v (.bool false)) rfl rfl rfl rfl (.moveX rfl) ?_
              refine RunT.xn rfl rfl rfl rfl rfl rfl ?_
              refine RunT.xn rfl rfl rfl rfl rfl rfl ?_
              refine RunT.xn rfl rfl rfl rfl rfl rfl ?_
              refine RunT.xn rfl rfl rfl rfl rfl rfl ?_
              refine RunT.xn rfl rfl rfl rfl rfl rfl ?_
              refine RunT.ot0 (x := .v (.bool false)) rfl rfl rfl rfl (.pickF rfl rfl) ?_
              refine RunT.nil ?_
              obtain rfl := si H
              exact (sub_to [some 0, some 1] (by decide) rfl rfl (⟨⟨_, rfl, .one .lst⟩, ⟨⟨_, rfl, .one (.ptr rfl)⟩, ⟨⟨_, rfl, .one .lst⟩, ⟨⟨_, rfl, .one (.ptr rfl)⟩, ⟨⟨_, rfl, .one .v⟩, ⟨⟨_, rfl, .one .v⟩, ⟨⟨_, rfl, .one .v⟩, trivial⟩⟩⟩⟩⟩⟩⟩) (⟨⟨rfl, .inl ⟨_, _, rfl, rfl, .box ⟨.lst, .v, .v, .lst, .lst, trivial⟩⟩⟩, ⟨⟨rfl, .inl ⟨_, _, rfl, rfl, .boxL ro_I⟩⟩, trivial⟩⟩))
          · have H := HO334
            refine T.cond2 (t := o332) rfl (fun c342 => ?_) (fun c342 => ?_)
            · replace H := ct H c342
              refine T.seq ?_
              refine T.sub (sub_pick [] [] (st' := ⟨[], [], 8, []⟩) rfl rfl rfl rfl rfl) ?_
              refine T.region ?_
              refine RunT.ot0 (x := .v (.bool false)) rfl rfl rfl rfl (.assignX rfl) ?_
              refine RunT.nil ?_
              obtain rfl := si H
              have HX := exr HO278
              obtain rfl := si HX
              refine T.sub (sub_to (st' := ⟨[(4, .v (.bool false))], [], 8, []⟩) [] (by decide) rfl rfl (⟨⟨_, rfl, .one .v⟩, trivial⟩) (trivial)) ?_
              refine T.ret ?_
              exact RetOk.same [.v (.bool false)] ⟨rfl, trivial⟩ rfl rfl rfl
            · replace H := cf H c342
              refine T.skip ?_
              refine T.seq ?_
              refine T.region ?_
              refine RunT.ot0 (x := .v (.int .i64 0)) rfl rfl rfl rfl (.assignX rfl) ?_
              refine RunT.nil ?_
              obtain ⟨o396, E397, HO398⟩ := bs H
              refine T.cutPE (fun v399 => o396 = .go v399) (fun v399 => ⟨[(1, .lst (List.map eB a1)), (5, .ptr 0 0), (6, .lst (List.map eLI r3)), (7, .ptr 1 0), (8, .v (.int .i64 v399.2)), (9, .v (.int .i64 v282))], [(0, some (.box [.lst (List.map eSeat r1.Seats), .v (.int .i64 r1.Gap), .v (.int .i64 r1.Radius), .lst (List.map eI r1.Kills), .lst (List.map ePole r1.Poles)])), (1, some (.box (List.map eI v399.1)))], 8, []⟩) ?_ ?_
              · have H := E397
                refine T.block ?_
                refine T.loopS (fun n s => ∃ (v400 : (List Int)) (v401 : Int) (v402 : Int), law7_RunPieces_l3 k r1 r3 v282 n v400 v401 v402 = some o396 ∧ s = ⟨[(1, .lst (List.map eB a1)), (5, .ptr 0 0), (6, .lst (List.map eLI r3)), (7, .ptr 1 0), (8, .v (.int .i64 v401)), (9, .v (.int .i64 v282)), (11, .v (.int .i64 v402))], [(0, some (.box [.lst (List.map eSeat r1.Seats), .v (.int .i64 r1.Gap), .v (.int .i64 r1.Radius), .lst (List.map eI r1.Kills), .lst (List.map ePole r1.Poles)])), (1, some (.box (List.map eI v400)))], 8, []⟩) k ⟨_, ⟨v280, v281, 0, H, rfl⟩, sub_to [some 0, some 1] (by decide) rfl rfl (⟨⟨_, rfl, .one .lst⟩, ⟨⟨_, rfl, .one (.ptr rfl)⟩, ⟨⟨_, rfl, .one .lst⟩, ⟨⟨_, rfl, .one (.ptr rfl)⟩, ⟨⟨_, rfl, .one .v⟩, ⟨⟨_, rfl, .one .v⟩, ⟨⟨_, rfl, .one .v⟩, trivial⟩⟩⟩⟩⟩⟩⟩) (⟨⟨rfl, .inl ⟨_, _, rfl, rfl, .box ⟨.lst, .v, .v, .lst, .lst, trivial⟩⟩⟩, ⟨⟨rfl, .inl ⟨_, _, rfl, rfl, .boxL ro_I⟩⟩, trivial⟩⟩)⟩ ?_
                rintro n s ⟨v400, v401, v402, H, rfl⟩
                rcases n with _ | n
                · cases (show none = some _ from H)
                rw [law7_RunPieces_l3] at H
                refine T.seq ?_
                refine T.seq ?_
                refine T.region ?_
                refine RunT.ot0 (x := .v (.int .i64 v402)) rfl rfl rfl rfl (.moveX rfl) ?_
                refine RunT.ot0 (x := .lst (List.map eLI r3)) rfl rfl rfl rfl (.moveX rfl) ?_
                refine RunT.ot0 (x := .v (.int .i64 v282)) rfl rfl rfl rfl (.moveX rfl) ?_
                obtain ⟨y403, h404, H⟩ := bs H
                refine RunT.ot0 (x := .rptr [.lst (List.map eI y403)]) rfl rfl rfl rfl (.idxLX h404 enc_LI sl35 rfl rfl rfl) ?_
                refine RunT.ot0 (x := .lst (List.map eI y403)) rfl rfl rfl rfl (.loadR ty23 rfl rfl) ?_
                refine RunT.ot0 (x := .v (.int .i64 (y403.length : Int))) rfl rfl rfl rfl (.lenLm Try.underlying23 rfl rfl) ?_
                refine RunT.ot0 (x := .v (.bool (decide (v402 < (y403.length : Int))))) rfl rfl rfl rfl (.bin rfl rfl (fun w => b_lss w) rfl) ?_
                refine RunT.nil ?_
                refine T.cond2 (t := decide (v402 < (y403.length : Int))) rfl (fun c405 => ?_) (fun c405 => ?_)
                · replace H := ct H c405
                  refine T.skip ?_
                  refine T.seq ?_
                  refine T.block ?_
                  refine T.seq ?_
                  refine T.sub (sub_pick [1, 5, 6, 7, 8, 9, 11] [0, 1] (st' := ⟨[(1, .lst (List.map eB a1)), (5, .ptr 0 0), (6, .lst (List.map eLI r3)), (7, .ptr 1 0), (8, .v (.int .i64 v401)), (9, .v (.int .i64 v282)), (11, .v (.int .i64 v402))], [(0, some (.box [.lst (List.map eSeat r1.Seats), .v (.int .i64 r1.Gap), .v (.int .i64 r1.Radius), .lst (List.map eI r1.Kills), .lst (List.map ePole r1.Poles)])), (1, some (.box (List.map eI v400)))], 8, []⟩) rfl rfl rfl rfl rfl) ?_
                  refine T.region ?_
                  refine RunT.ot0 (x := .lst (List.map eLI r3)) rfl rfl rfl rfl (.moveX rfl) ?_
                  refine RunT.ot0 (x := .v (.int .i64 v282)) rfl rfl rfl rfl (.moveX rfl) ?_
                  obtain ⟨y406, h407, H⟩ := bs H
                  refine RunT.ot0 (x := .rptr [.lst (List.map eI y406)]) rfl rfl rfl rfl (.idxLX h407 enc_LI sl35 rfl rfl rfl) ?_
                  refine RunT.ot0 (x := .lst (List.map eI y406)) rfl rfl rfl rfl (.loadR ty23 rfl rfl) ?_
                  refine RunT.ot0 (x := .v (.int .i64 v402)) rfl rfl rfl rfl (.moveX rfl) ?_
                  obtain ⟨y408, h409, H⟩ := bs H
                  refine RunT.ot0 (x := .rptr [.v (.int .i64 y408)]) rfl rfl rfl rfl (.idxLX h409 enc_I sl23 rfl rfl rfl) ?_
                  refine RunT.ot0 (x := .v (.int .i64 y408)) rfl rfl rfl rfl (.loadR ty3 rfl rfl) ?_
                  refine RunT.ot0 (x := .v (.int .i64 y408)) rfl rfl rfl rfl (.assignX rfl) ?_
                  refine RunT.nil ?_
                  refine T.seq ?_
                  refine T.seq ?_
                  refine T.region ?_
                  refine RunT.ot0 (x := .v (.int .i64 y408)) rfl rfl rfl rfl (.moveX rfl) ?_
                  refine RunT.ot0 (x := .v (.int .i64 v401)) rfl rfl rfl rfl (.moveX rfl) ?_
                  refine RunT.ot0 (x := .v (.bool (decide (y408 ≤ v401)))) rfl rfl rfl rfl (.bin rfl rfl (fun w => b_leq w) rfl) ?_
                  refine RunT.ot0 (x := .v (.bool (decide (y408 ≤ v401)))) rfl rfl rfl rfl (.moveX rfl) ?_
                  refine RunT.cases (t := 96) (c := decide (y408 ≤ v401)) rfl (fun g410 => ?_) (fun g410 => ?_)
                  · replace H := ct H g410
                    refine RunT.xn rfl rfl rfl (bo g410) rfl rfl ?_
                    refine RunT.xn rfl rfl rfl (bo g410) rfl rfl ?_
                    refine RunT.xn rfl rfl rfl (bo g410) rfl rfl ?_
                    refine RunT.xn rfl rfl rfl (bo g410) rfl rfl ?_
                    refine RunT.xn rfl rfl rfl (bo g410) rfl rfl ?_
                    refine RunT.ot0 (x := .v (.bool true)) rfl rfl rfl rfl (.pickT (bo g410) rfl) ?_
                    refine RunT.ot0 (x := .v (.bool true)) rfl rfl rfl rfl (.moveX rfl) ?_
                    refine RunT.xn rfl rfl rfl rfl rfl rfl ?_
                    refine RunT.xn rfl rfl rfl rfl rfl rfl ?_
                    refine RunT.xn rfl rfl rfl rfl rfl rfl ?_
                    refine RunT.xu rfl rfl rfl rfl rfl rfl ?_
                    refine RunT.xu rfl rfl rfl rfl rfl rfl ?_
                    refine RunT.xu rfl rfl rfl rfl rfl rfl ?_
                    refine RunT.xu rfl rfl rfl rfl rfl rfl ?_
                    refine RunT.xu rfl rfl rfl rfl rfl rfl ?_
                    refine RunT.xn rfl rfl rfl rfl rfl rfl ?_
                    refine RunT.ot0 (x := .v (.bool true)) rfl rfl rfl rfl (.pickT rfl rfl) ?_
                    refine RunT.nil ?_
                    refine T.condT rfl ?_
                    refine T.seq ?_
                    refine T.region ?_
                    refine RunT.ot0 (x := .v (.bool false)) rfl rfl rfl rfl (.assignX rfl) ?_
                    refine RunT.nil ?_
                    obtain rfl := si H
                    have HX := exr HO398
                    obtain rfl := si HX
                    have HX := exr HO278
                    obtain rfl := si HX
                    refine T.sub (sub_to (st' := ⟨[(4, .v (.bool false))], [], 8, []⟩) [] (by decide) rfl rfl (⟨⟨_, rfl, .one .v⟩, trivial⟩) (trivial)) ?_
                    refine T.ret ?_
                    exact RetOk.same [.v (.bool false)] ⟨rfl, trivial⟩ rfl rfl rfl
                  · replace H := cf H g410
                    refine RunT.gt0 (x := .v (.int .i64 y408)) rfl rfl rfl (bo g410) rfl rfl (.moveX rfl) ?_
                    refine RunT.gt0 (x := .ptr 0 0) rfl rfl rfl (bo g410) rfl rfl (.fieldPX fl26_0 rfl rfl) ?_
                    refine RunT.gt0 (x := .lst (List.map eSeat r1.Seats)) rfl rfl rfl (bo g410) rfl rfl (.loadP ty22 rfl rfl rfl) ?_
                    refine RunT.gt0 (x := .v (.int .i64 (r1.Seats.length : Int))) rfl rfl rfl (bo g410) rfl rfl (.lenLm Try.underlying22 rfl rfl) ?_
                    refine RunT.gt0 (x := .v (.bool (decide ((r1.Seats.length : Int) ≤ y408)))) rfl rfl rfl (bo g410) rfl rfl (.bin rfl rfl (fun w => b_geq w) rfl) ?_
                    refine RunT.ot0 (x := .v (.bool (decide ((r1.Seats.length : Int) ≤ y408)))) rfl rfl rfl rfl (.pickF (bo g410) rfl) ?_
                    refine RunT.ot0 (x := .v (.bool (decide ((r1.Seats.length : Int) ≤ y408)))) rfl rfl rfl rfl (.moveX rfl) ?_
                    refine RunT.cases (t := 103) (c := decide ((r1.Seats.length : Int) ≤ y408)) rfl (fun g411 => ?_) (fun g411 => ?_)
                    · replace H := ct H g411
                      refine RunT.xn rfl rfl rfl (bo g411) rfl rfl ?_
                      refine RunT.xn rfl rfl rfl (bo g411) rfl rfl ?_
                      refine RunT.xn rfl rfl rfl (bo g411) rfl rfl ?_
                      refine RunT.xu rfl rfl rfl rfl rfl rfl ?_
                      refine RunT.xu rfl rfl rfl rfl rfl rfl ?_
                      refine RunT.xu rfl rfl rfl rfl rfl rfl ?_
                      refine RunT.xu rfl rfl rfl rfl rfl rfl ?_
                      refine RunT.xu rfl rfl rfl rfl rfl rfl ?_
                      refine RunT.xn rfl rfl rfl (bo g411) rfl rfl ?_
                      refine RunT.ot0 (x := .v (.bool true)) rfl rfl rfl rfl (.pickT (bo g411) rfl) ?_
                      refine RunT.nil ?_
                      refine T.condT rfl ?_
                      refine T.seq ?_
                      refine T.sub (sub_pick [] [] (st' := ⟨[], [], 8, []⟩) rfl rfl rfl rfl rfl) ?_
                      refine T.region ?_
                      refine RunT.ot0 (x := .v (.bool false)) rfl rfl rfl rfl (.assignX rfl) ?_
                      refine RunT.nil ?_
                      obtain rfl := si H
                      have HX := exr HO398
                      obtain rfl := si HX
                      have HX := exr HO278
                      obtain rfl := si HX
                      refine T.sub (sub_to (st' := ⟨[(4, .v (.bool false))], [], 8, []⟩) [] (by decide) rfl rfl (⟨⟨_, rfl, .one .v⟩, trivial⟩) (trivial)) ?_
                      refine T.ret ?_
                      exact RetOk.same [.v (.bool false)] ⟨rfl, trivial⟩ rfl rfl rfl
                    · replace H := cf H g411
                      refine RunT.gt0 (x := .v (.int .i64 v402)) rfl rfl rfl (bo g411) rfl rfl (.moveX rfl) ?_
                      refine RunT.gt0 (x := .v (.bool (decide (0 < v402)))) rfl rfl rfl (bo g411) rfl rfl (.bin rfl rfl (fun w => b_gtr w) rfl) ?_
                      refine RunT.gt0 (x := .v (.bool (decide (0 < v402)))) rfl rfl rfl (bo g411) rfl rfl (.moveX rfl) ?_
                      refine RunT.cases (t := 106) (c := decide (0 < v402)) rfl (fun g412 => ?_) (fun g412 => ?_)
                      · replace H := ct H g412
                        refine RunT.gt0 (x := .agg [.lst (List.map eSeat r1.Seats), .v (.int .i64 r1.Gap), .v (.int .i64 r1.Radius), .lst (List.map eI r1.Kills), .lst (List.map ePole r1.Poles)]) rfl rfl rfl (bo g412) rfl rfl (.loadP ty26 rfl rfl rfl) ?_
                        refine RunT.gt0 (x := .v (.int .i64 y408)) rfl rfl rfl (bo g412) rfl rfl (.moveX rfl) ?_
                        refine RunT.gt0 (x := .v (.int .i64 (wr (y408 - 1)))) rfl rfl rfl (bo g412) rfl rfl (.bin rfl rfl (fun w => b_subw w) rfl) ?_
                        obtain ⟨r413, h414, H⟩ := bs H
                        refine RunT.gt0 (x := .v (.bool r413)) rfl rfl rfl (bo g412) rfl rfl (.callp (run_Next_pc false k r1 (wr (y408 - 1)) r413 h414) rfl ⟨(.agg' ⟨.lst, .v, .v, .lst, .lst, trivial⟩), (.one .v), trivial⟩ rfl rfl rfl) ?_
                        refine RunT.gt0 (x := .v (.bool (!r413))) rfl rfl rfl (bo g412) rfl rfl (.un rfl (fun w => u_not w) rfl) ?_
                        refine RunT.gt0 (x := .v (.bool (!r413))) rfl rfl rfl (bo g411) rfl rfl (.pickT (bo g412) rfl) ?_
                        refine RunT.ot0 (x := .v (.bool (!r413))) rfl rfl rfl rfl (.pickF (bo g411) rfl) ?_
                        refine RunT.nil ?_
                        refine T.cond2 (t := !r413) rfl (fun c415 => ?_) (fun c415 => ?_)
                        · replace H := ct H c415
                          refine T.seq ?_
                          refine T.region ?_
                          refine RunT.ot0 (x := .v (.bool false)) rfl rfl rfl rfl (.assignX rfl) ?_
                          refine RunT.nil ?_
                          obtain rfl := si H
                          have HX := exr HO398
                          obtain rfl := si HX
                          have HX := exr HO278
                          obtain rfl := si HX
                          refine T.sub (sub_to (st' := ⟨[(4, .v (.bool false))], [], 8, []⟩) [] (by decide) rfl rfl (⟨⟨_, rfl, .one .v⟩, trivial⟩) (trivial)) ?_
                          refine T.ret ?_
                          exact RetOk.same [.v (.bool false)] ⟨rfl, trivial⟩ rfl rfl rfl
                        · replace H := cf H c415
                          refine T.skip ?_
                          refine T.seq ?_
                          refine T.region ?_
                          refine RunT.ot0 (x := .v (.int .i64 y408)) rfl rfl rfl rfl (.moveX rfl) ?_
                          refine RunT.ot0 (x := .v (.int .i64 y408)) rfl rfl rfl rfl (.assignX rfl) ?_
                          refine RunT.nil ?_
                          refine T.region ?_
                          refine RunT.ot0 (x := .v (.int .i64 y408)) rfl rfl rfl rfl (.moveX rfl) ?_
                          obtain ⟨h416, H⟩ := gs H
                          refine RunT.ot0 (x := .ptr 1 y408.toNat) rfl rfl rfl rfl (.idxAX ar51 rfl rfl h416) ?_
                          obtain ⟨y417, h418, H⟩ := bs H
                          refine RunT.ot0 (x := .v (.int .i64 y417)) rfl rfl rfl rfl (.loadAX (f := eI) ty3 rfl rfl h418) ?_
                          refine RunT.ot0 (x := .v (.int .i64 (wr (y417 + 1)))) rfl rfl rfl rfl (.bin rfl rfl (fun w => b_addw w) rfl) ?_
                          obtain ⟨h419, H⟩ := gs H
                          refine RunT.ot0 (x := .ptr 1 y408.toNat) rfl rfl rfl rfl (.idxAX ar51 rfl rfl h419) ?_
                          obtain ⟨y420, h421, H⟩ := bs H
                          refine RunT.on1 (x := .junk) (p0 := (1, some (.box (List.map eI (v400.set y408.toNat (wr (y417 + 1))))))) (n' := 16) rfl rfl rfl (.storeAX (f := eI) (z := wr (y417 + 1)) ty3 rfl rfl rfl rfl rfl h421) rfl ?_
                          refine RunT.nil ?_
                          refine T.sub (sub_pick [1, 5, 6, 7, 8, 9, 11] [0, 1] (st' := ⟨[(1, .lst (List.map eB a1)), (5, .ptr 0 0), (6, .lst (List.map eLI r3)), (7, .ptr 1 0), (8, .v (.int .i64 y408)), (9, .v (.int .i64 v282)), (11, .v (.int .i64 v402))], [(0, some (.box [.lst (List.map eSeat r1.Seats), .v (.int .i64 r1.Gap), .v (.int .i64 r1.Radius), .lst (List.map eI r1.Kills), .lst (List.map ePole r1.Poles)])), (1, some (.box (List.map eI (v400.set y408.toNat (wr (y417 + 1))))))], 16, []⟩) rfl rfl rfl rfl rfl) ?_
                          refine T.region ?_
                          refine RunT.ot0 (x := .v (.int .i64 v402)) rfl rfl rfl rfl (.moveX rfl) ?_
                          refine RunT.ot0 (x := .v (.int .i64 (wr (v402 + 1)))) rfl rfl rfl rfl (.bin rfl rfl (fun w => b_addw w) rfl) ?_
                          refine RunT.ot0 (x := .v (.int .i64 (wr (v402 + 1)))) rfl rfl rfl rfl (.assignX rfl) ?_
                          refine RunT.nil ?_
                          exact ⟨n, Nat.lt_succ_self n, _, ⟨v400.set y408.toNat (wr (y417 + 1)), y408, wr (v402 + 1), H, rfl⟩, (sub_to [some 0, some 1] (by decide) rfl rfl (⟨⟨_, rfl, .one .lst⟩, ⟨⟨_, rfl, .one (.ptr rfl)⟩, ⟨⟨_, rfl, .one .lst⟩, ⟨⟨_, rfl, .one (.ptr rfl)⟩, ⟨⟨_, rfl, .one .v⟩, ⟨⟨_, rfl, .one .v⟩, ⟨⟨_, rfl, .one .v⟩, trivial⟩⟩⟩⟩⟩⟩⟩) (⟨⟨rfl, .inl ⟨_, _, rfl, rfl, .box ⟨.lst, .v, .v, .lst, .lst, trivial⟩⟩⟩, ⟨⟨rfl, .inl ⟨_, _, rfl, rfl, .boxL ro_I⟩⟩, trivial⟩⟩))⟩
                      · replace H := cf H g412
                        refine RunT.xn rfl rfl rfl (bo g412) rfl rfl ?_
                        refine RunT.xn rfl rfl rfl (bo g412) rfl rfl ?_
                        refine RunT.xn rfl rfl rfl (bo g412) rfl rfl ?_
                        refine RunT.xn rfl rfl rfl (bo g412) rfl rfl ?_
                        refine RunT.xn rfl rfl rfl (bo g412) rfl rfl ?_
                        refine RunT.gt0 (x := .v (.bool false)) rfl rfl rfl (bo g411) rfl rfl (.pickF (bo g412) rfl) ?_
                        refine RunT.ot0 (x := .v (.bool false)) rfl rfl rfl rfl (.pickF (bo g411) rfl) ?_
                        refine RunT.nil ?_
                        refine T.condF rfl ?_
                        refine T.skip ?_
                        refine T.seq ?_
                        refine T.region ?_
                        refine RunT.ot0 (x := .v (.int .i64 y408)) rfl rfl rfl rfl (.moveX rfl) ?_
                        refine RunT.ot0 (x := .v (.int .i64 y408)) rfl rfl rfl rfl (.assignX rfl) ?_
                        refine RunT.nil ?_
                        refine T.region ?_
                        refine RunT.ot0 (x := .v (.int .i64 y408)) rfl rfl rfl rfl (.moveX rfl) ?_
                        obtain ⟨h422, H⟩ := gs H
                        refine RunT.ot0 (x := .ptr 1 y408.toNat) rfl rfl rfl rfl (.idxAX ar51 rfl rfl h422) ?_
                        obtain ⟨y423, h424, H⟩ := bs H
                        refine RunT.ot0 (x := .v (.int .i64 y423)) rfl rfl rfl rfl (.loadAX (f := eI) ty3 rfl rfl h424) ?_
                        refine RunT.ot0 (x := .v (.int .i64 (wr (y423 + 1)))) rfl rfl rfl rfl (.bin rfl rfl (fun w => b_addw w) rfl) ?_
                        obtain ⟨h425, H⟩ := gs H
                        refine RunT.ot0 (x := .ptr 1 y408.toNat) rfl rfl rfl rfl (.idxAX ar51 rfl rfl h425) ?_
                        obtain ⟨y426, h427, H⟩ := bs H
                        refine RunT.on1 (x := .junk) (p0 := (1, some (.box (List.map eI (v400.set y408.toNat (wr (y423 + 1))))))) (n' := 16) rfl rfl rfl (.storeAX (f := eI) (z := wr (y423 + 1)) ty3 rfl rfl rfl rfl rfl h427) rfl ?_
                        refine RunT.nil ?_
                        refine T.region ?_
                        refine RunT.ot0 (x := .v (.int .i64 v402)) rfl rfl rfl rfl (.moveX rfl) ?_
                        refine RunT.ot0 (x := .v (.int .i64 (wr (v402 + 1)))) rfl rfl rfl rfl (.bin rfl rfl (fun w => b_addw w) rfl) ?_
                        refine RunT.ot0 (x := .v (.int .i64 (wr (v402 + 1)))) rfl rfl rfl rfl (.assignX rfl) ?_
                        refine RunT.nil ?_
                        exact ⟨n, Nat.lt_succ_self n, _, ⟨v400.set y408.toNat (wr (y423 + 1)), y408, wr (v402 + 1), H, rfl⟩, (sub_to [some 0, some 1] (by decide) rfl rfl (⟨⟨_, rfl, .one .lst⟩, ⟨⟨_, rfl, .one (.ptr rfl)⟩, ⟨⟨_, rfl, .one .lst⟩, ⟨⟨_, rfl, .one (.ptr rfl)⟩, ⟨⟨_, rfl, .one .v⟩, ⟨⟨_, rfl, .one .v⟩, ⟨⟨_, rfl, .one .v⟩, trivial⟩⟩⟩⟩⟩⟩⟩) (⟨⟨rfl, .inl ⟨_, _, rfl, rfl, .box ⟨.lst, .v, .v, .lst, .lst, trivial⟩⟩⟩, ⟨⟨rfl, .inl ⟨_, _, rfl, rfl, .boxL ro_I⟩⟩, trivial⟩⟩))⟩
                · replace H := cf H c405
                  refine T.exit ?_
                  obtain rfl := si H
                  exact ⟨_, rfl, (sub_to [some 0, some 1] (by decide) rfl rfl (⟨⟨_, rfl, .one .lst⟩, ⟨⟨_, rfl, .one (.ptr rfl)⟩, ⟨⟨_, rfl, .one .lst⟩, ⟨⟨_, rfl, .one (.ptr rfl)⟩, ⟨⟨_, rfl, .one .v⟩, ⟨⟨_, rfl, .one .v⟩, trivial⟩⟩⟩⟩⟩⟩) (⟨⟨rfl, .inl ⟨_, _, rfl, rfl, .box ⟨.lst, .v, .v, .lst, .lst, trivial⟩⟩⟩, ⟨⟨rfl, .inl ⟨_, _, rfl, rfl, .boxL ro_I⟩⟩, trivial⟩⟩))⟩
              · intro v399 s hR hS
                subst hR
                have H := exg HO398
                refine T.sub hS ?_
                refine T.sub (sub_pick [1, 5, 6, 7, 8, 9] [0, 1] (st' := ⟨[(1, .lst (List.map eB a1)), (5, .ptr 0 0), (6, .lst (List.map eLI r3)), (7, .ptr 1 0), (8, .v (.int .i64 v399.2)), (9, .v (.int .i64 v282))], [(0, some (.box [.lst (List.map eSeat r1.Seats), .v (.int .i64 r1.Gap), .v (.int .i64 r1.Radius), .lst (List.map eI r1.Kills), .lst (List.map ePole r1.Poles)])), (1, some (.box (List.map eI v399.1)))], 8, []⟩) rfl rfl rfl rfl rfl) ?_
                refine T.region ?_
                refine RunT.ot0 (x := .v (.int .i64 v282)) rfl rfl rfl rfl (.moveX rfl) ?_
                refine RunT.ot0 (x := .v (.int .i64 (wr (v282 + 1)))) rfl rfl rfl rfl (.bin rfl rfl (fun w => b_addw w) rfl) ?_
                refine RunT.ot0 (x := .v (.int .i64 (wr (v282 + 1)))) rfl rfl rfl rfl (.assignX rfl) ?_
                refine RunT.nil ?_
                exact ⟨n, Nat.lt_succ_self n, _, ⟨v399.1, v399.2, wr (v282 + 1), H, rfl⟩, (sub_to [some 0, some 1] (by decide) rfl rfl (⟨⟨_, rfl, .one .lst⟩, ⟨⟨_, rfl, .one (.ptr rfl)⟩, ⟨⟨_, rfl, .one .lst⟩, ⟨⟨_, rfl, .one (.ptr rfl)⟩, ⟨⟨_, rfl, .one .v⟩, ⟨⟨_, rfl, .one .v⟩, trivial⟩⟩⟩⟩⟩⟩) (⟨⟨rfl, .inl ⟨_, _, rfl, rfl, .box ⟨.lst, .v, .v, .lst, .lst, trivial⟩⟩⟩, ⟨⟨rfl, .inl ⟨_, _, rfl, rfl, .boxL ro_I⟩⟩, trivial⟩⟩))⟩
    · replace H := cf H c283
      refine T.exit ?_
      obtain rfl := si H
      exact ⟨_, rfl, (sub_to [some 0, some 1] (by decide) rfl rfl (⟨⟨_, rfl, .one .lst⟩, ⟨⟨_, rfl, .one (.ptr rfl)⟩, ⟨⟨_, rfl, .one (.ptr rfl)⟩, trivial⟩⟩⟩) (⟨⟨rfl, .inl ⟨_, _, rfl, rfl, .box ⟨.lst, .v, .v, .lst, .lst, trivial⟩⟩⟩, ⟨⟨rfl, .inl ⟨_, _, rfl, rfl, .boxL ro_I⟩⟩, trivial⟩⟩))⟩
  · intro v279 s hR hS
    subst hR
    have H := exg HO278
    refine T.sub hS ?_
    refine T.seq ?_
    refine T.seq ?_
    refine T.region ?_
    refine RunT.ot0 (x := .v (.int .i64 0)) rfl rfl rfl rfl (.assignX rfl) ?_
    refine RunT.nil ?_
    obtain ⟨o457, E458, HO459⟩ := bs H
    refine T.cutPE (fun v460 => o457 = .go v460) (fun v460 => ⟨[(5, .ptr 0 0)], [(0, some (.box [.lst (List.map eSeat r1.Seats), .v (.int .i64 r1.Gap), .v (.int .i64 r1.Radius), .lst (List.map eI r1.Kills), .lst (List.map ePole r1.Poles)]))], 8, []⟩) ?_ ?_
    · have H := E458
      refine T.block ?_
      refine T.loopS (fun n s => ∃ (v461 : Int), law7_RunPieces_l4 k a1 r1 v279 n v461 = some o457 ∧ s = ⟨[(1, .lst (List.map eB a1)), (5, .ptr 0 0), (7, .ptr 1 0), (13, .v (.int .i64 v461))], [(0, some (.box [.lst (List.map eSeat r1.Seats), .v (.int .i64 r1.Gap), .v (.int .i64 r1.Radius), .lst (List.map eI r1.Kills), .lst (List.map ePole r1.Poles)])), (1, some (.box (List.map eI v279)))], 8, []⟩) k ⟨_, ⟨0, H, rfl⟩, sub_to [some 0, some 1] (by decide) rfl rfl (⟨⟨_, rfl, .one .lst⟩, ⟨⟨_, rfl, .one (.ptr rfl)⟩, ⟨⟨_, rfl, .one (.ptr rfl)⟩, ⟨⟨_, rfl, .one .v⟩, trivial⟩⟩⟩⟩) (⟨⟨rfl, .inl ⟨_, _, rfl, rfl, .box ⟨.lst, .v, .v, .lst, .lst, trivial⟩⟩⟩, ⟨⟨rfl, .inl ⟨_, _, rfl, rfl, .boxL ro_I⟩⟩, trivial⟩⟩)⟩ ?_
      rintro n s ⟨v461, H, rfl⟩
      rcases n with _ | n
      · cases (show none = some _ from H)
      rw [law7_RunPieces_l4] at H
      refine T.seq ?_
      refine T.seq ?_
      refine T.region ?_
      refine RunT.ot0 (x := .v (.int .i64 v461)) rfl rfl rfl rfl (.moveX rfl) ?_
      refine RunT.ot0 (x := .ptr 0 0) rfl rfl rfl rfl (.fieldPX fl26_0 rfl rfl) ?_
      refine RunT.ot0 (x := .lst (List.map eSeat r1.Seats)) rfl rfl rfl rfl (.loadP ty22 rfl rfl rfl) ?_
      refine RunT.ot0 (x := .v (.int .i64 (r1.Seats.length : Int))) rfl rfl rfl rfl (.lenLm Try.underlying22 rfl rfl) ?_
      refine RunT.ot0 (x := .v (.bool (decide (v461 < (r1.Seats.length : Int))))) rfl rfl rfl rfl (.bin rfl rfl (fun w => b_lss w) rfl) ?_
      refine RunT.nil ?_
      refine T.cond2 (t := decide (v461 < (r1.Seats.length : Int))) rfl (fun c462 => ?_) (fun c462 => ?_)
      · replace H := ct H c462
        refine T.skip ?_
        refine T.seq ?_
        refine T.block ?_
        obtain ⟨o466, E467, HO468⟩ := bs H
        refine T.cut (⟨[(1, .lst (List.map eB a1)), (5, .ptr 0 0), (7, .ptr 1 0), (13, .v (.int .i64 v461)), (14, .v (.bool o466))], [(0, some (.box [.lst (List.map eSeat r1.Seats), .v (.int .i64 r1.Gap), .v (.int .i64 r1.Radius), .lst (List.map eI r1.Kills), .lst (List.map ePole r1.Poles)])), (1, some (.box (List.map eI v279)))], 8, []⟩) ?_ ?_
        · have H := E467
          refine T.sub (sub_pick [1, 5, 7, 13] [0, 1] (st' := ⟨[(1, .lst (List.map eB a1)), (5, .ptr 0 0), (7, .ptr 1 0), (13, .v (.int .i64 v461))], [(0, some (.box [.lst (List.map eSeat r1.Seats), .v (.int .i64 r1.Gap), .v (.int .i64 r1.Radius), .lst (List.map eI r1.Kills), .lst (List.map ePole r1.Poles)])), (1, some (.box (List.map eI v279)))], 8, []⟩) rfl rfl rfl rfl rfl) ?_
          refine T.region ?_
          refine RunT.ot0 (x := .v (.int .i64 v461)) rfl rfl rfl rfl (.moveX rfl) ?_
          refine RunT.ot0 (x := .lst (List.map eB a1)) rfl rfl rfl rfl (.moveX rfl) ?_
          refine RunT.ot0 (x := .v (.int .i64 (a1.length : Int))) rfl rfl rfl rfl (.lenLm Try.underlying43 rfl rfl) ?_
          refine RunT.ot0 (x := .v (.bool (decide (v461 < (a1.length : Int))))) rfl rfl rfl rfl (.bin rfl rfl (fun w => b_lss w) rfl) ?_
          refine RunT.ot0 (x := .v (.bool (decide (v461 < (a1.length : Int))))) rfl rfl rfl rfl (.moveX rfl) ?_
          refine RunT.cases (t := 131) (c := decide (v461 < (a1.length : Int))) rfl (fun g469 => ?_) (fun g469 => ?_)
          · replace H := ct H g469
            refine RunT.gt0 (x := .lst (List.map eB a1)) rfl rfl rfl (bo g469) rfl rfl (.moveX rfl) ?_
            refine RunT.gt0 (x := .v (.int .i64 v461)) rfl rfl rfl (bo g469) rfl rfl (.moveX rfl) ?_
            obtain ⟨y470, h471, H⟩ := bs H
            refine RunT.gt0 (x := .rptr [.v (.bool y470)]) rfl rfl rfl (bo g469) rfl rfl (.idxLX h471 enc_B sl43 rfl rfl rfl) ?_
            refine RunT.gt0 (x := .v (.bool y470)) rfl rfl rfl (bo g469) rfl rfl (.loadR ty4 rfl rfl) ?_
            refine RunT.ot0 (x := .v (.bool y470)) rfl rfl rfl rfl (.pickT (bo g469) rfl) ?_
            refine RunT.ot0 (x := .v (.bool y470)) rfl rfl rfl rfl (.assignX rfl) ?_
            refine RunT.nil ?_
            obtain rfl := si H
            exact (sub_to [some 0, some 1] (by decide) rfl rfl (⟨⟨_, rfl, .one .lst⟩, ⟨⟨_, rfl, .one (.ptr rfl)⟩, ⟨⟨_, rfl, .one (.ptr rfl)⟩, ⟨⟨_, rfl, .one .v⟩, ⟨⟨_, rfl, .one .v⟩, trivial⟩⟩⟩⟩⟩) (⟨⟨rfl, .inl ⟨_, _, rfl, rfl, .box ⟨.lst, .v, .v, .lst, .lst, trivial⟩⟩⟩, ⟨⟨rfl, .inl ⟨_, _, rfl, rfl, .boxL ro_I⟩⟩, trivial⟩⟩))
          · replace H := cf H g469
            refine RunT.xn rfl rfl rfl (bo g469) rfl rfl ?_
            refine RunT.xn rfl rfl rfl (bo g469) rfl rfl ?_
            refine RunT.xn rfl rfl rfl (bo g469) rfl rfl ?_
            refine RunT.xn rfl rfl rfl (bo g469) rfl rfl ?_
            refine RunT.ot0 (x := .v (.bool false)) rfl rfl rfl rfl (.pickF (bo g469) rfl) ?_
            refine RunT.ot0 (x := .v (.bool false)) rfl rfl rfl rfl (.assignX rfl) ?_
            refine RunT.nil ?_
            obtain rfl := si H
            exact (sub_to [some 0, some 1] (by decide) rfl rfl (⟨⟨_, rfl, .one .lst⟩, ⟨⟨_, rfl, .one (.ptr rfl)⟩, ⟨⟨_, rfl, .one (.ptr rfl)⟩, ⟨⟨_, rfl, .one .v⟩, ⟨⟨_, rfl, .one .v⟩, trivial⟩⟩⟩⟩⟩) (⟨⟨rfl, .inl ⟨_, _, rfl, rfl, .box ⟨.lst, .v, .v, .lst, .lst, trivial⟩⟩⟩, ⟨⟨rfl, .inl ⟨_, _, rfl, rfl, .boxL ro_I⟩⟩, trivial⟩⟩))
        · have H := HO468
          refine T.seq ?_
          refine T.region ?_
          refine RunT.ot0 (x := .v (.int .i64 v461)) rfl rfl rfl rfl (.moveX rfl) ?_
          obtain ⟨h472, H⟩ := gs H
          refine RunT.ot0 (x := .ptr 1 v461.toNat) rfl rfl rfl rfl (.idxAX ar51 rfl rfl h472) ?_
          obtain ⟨y473, h474, H⟩ := bs H
          refine RunT.ot0 (x := .v (.int .i64 y473)) rfl rfl rfl rfl (.loadAX (f := eI) ty3 rfl rfl h474) ?_
          refine RunT.ot0 (x := .v (.bool (decide (y473 = 1)))) rfl rfl rfl rfl (.bin rfl rfl (fun w => b_eql w) rfl) ?_
          refine RunT.ot0 (x := .v (.bool o466)) rfl rfl rfl rfl (.moveX rfl) ?_
          refine RunT.ot0 (x := .v (.bool (!((decide (y473 = 1)) == o466)))) rfl rfl rfl rfl (.bin rfl rfl (fun w => b_neB w Try.underlying4) rfl) ?_
          refine RunT.nil ?_
          refine T.cond2 (t := !((decide (y473 = 1)) == o466)) rfl (fun c475 => ?_) (fun c475 => ?_)
          · replace H := ct H c475
            refine T.seq ?_
            refine T.sub (sub_pick [] [] (st' := ⟨[], [], 8, []⟩) rfl rfl rfl rfl rfl) ?_
            refine T.region ?_
            refine RunT.ot0 (x := .v (.bool false)) rfl rfl rfl rfl (.assignX rfl) ?_
            refine RunT.nil ?_
            obtain rfl := si H
            have HX := exr HO459
            obtain rfl := si HX
            refine T.sub (sub_to (st' := ⟨[(4, .v (.bool false))], [], 8, []⟩) [] (by decide) rfl rfl (⟨⟨_, rfl, .one .v⟩, trivial⟩) (trivial)) ?_
            refine T.ret ?_
            exact RetOk.same [.v (.bool false)] ⟨rfl, trivial⟩ rfl rfl rfl
          · replace H := cf H c475
            refine T.skip ?_
            refine T.region ?_
            refine RunT.ot0 (x := .v (.int .i64 v461)) rfl rfl rfl rfl (.moveX rfl) ?_
            refine RunT.ot0 (x := .v (.int .i64 (wr (v461 + 1)))) rfl rfl rfl rfl (.bin rfl rfl (fun w => b_addw w) rfl) ?_
            refine RunT.ot0 (x := .v (.int .i64 (wr (v461 + 1)))) rfl rfl rfl rfl (.assignX rfl) ?_
            refine RunT.nil ?_
            exact ⟨n, Nat.lt_succ_self n, _, ⟨wr (v461 + 1), H, rfl⟩, (sub_to [some 0, some 1] (by decide) rfl rfl (⟨⟨_, rfl, .one .lst⟩, ⟨⟨_, rfl, .one (.ptr rfl)⟩, ⟨⟨_, rfl, .one (.ptr rfl)⟩, ⟨⟨_, rfl, .one .v⟩, trivial⟩⟩⟩⟩) (⟨⟨rfl, .inl ⟨_, _, rfl, rfl, .box ⟨.lst, .v, .v, .lst, .lst, trivial⟩⟩⟩, ⟨⟨rfl, .inl ⟨_, _, rfl, rfl, .boxL ro_I⟩⟩, trivial⟩⟩))⟩
      · replace H := cf H c462
        refine T.exit ?_
        obtain rfl := si H
        exact ⟨_, rfl, (sub_to [some 0] (by decide) rfl rfl (⟨⟨_, rfl, .one (.ptr rfl)⟩, trivial⟩) (⟨⟨rfl, .inl ⟨_, _, rfl, rfl, .box ⟨.lst, .v, .v, .lst, .lst, trivial⟩⟩⟩, trivial⟩))⟩
    · intro v460 s hR hS
      subst hR
      have H := exg HO459
      refine T.sub hS ?_
      refine T.seq ?_
      refine T.region ?_
      obtain ⟨r476, h477, H⟩ := bs H
      refine RunT.ot0 (x := .v (.bool r476)) rfl rfl rfl rfl (.callp (law7_told_pc false k  r476 h477) rfl trivial rfl rfl rfl) ?_
      refine RunT.ot0 (x := .v (.bool r476)) rfl rfl rfl rfl (.moveX rfl) ?_
      refine RunT.cases (t := 144) (c := r476) rfl (fun g478 => ?_) (fun g478 => ?_)
      · replace H := ct H g478
        refine RunT.gt0 (x := .agg [.lst (List.map eSeat r1.Seats), .v (.int .i64 r1.Gap), .v (.int .i64 r1.Radius), .lst (List.map eI r1.Kills), .lst (List.map ePole r1.Poles)]) rfl rfl rfl (bo g478) rfl rfl (.loadP ty26 rfl rfl rfl) ?_
        obtain ⟨r479, h480, H⟩ := bs H
        refine RunT.gt0 (x := .v (.bool r479)) rfl rfl rfl (bo g478) rfl rfl (.callp (ref2_May_pc false k r1 r479 h480) rfl ⟨(.agg' ⟨.lst, .v, .v, .lst, .lst, trivial⟩), trivial⟩ rfl rfl rfl) ?_
        refine RunT.ot0 (x := .v (.bool r479)) rfl rfl rfl rfl (.pickT (bo g478) rfl) ?_
        refine RunT.ot0 (x := .v (.bool r479)) rfl rfl rfl rfl (.assignX rfl) ?_
        refine RunT.nil ?_
        obtain rfl := si H
        refine T.sub (sub_to (st' := ⟨[(4, .v (.bool r479))], [], 8, []⟩) [] (by decide) rfl rfl (⟨⟨_, rfl, .one .v⟩, trivial⟩) (trivial)) ?_
        refine T.ret ?_
        exact RetOk.same [.v (.bool r479)] ⟨rfl, trivial⟩ rfl rfl rfl
      · replace H := cf H g478
        refine RunT.xn rfl rfl rfl (bo g478) rfl rfl ?_
        refine RunT.xn rfl rfl rfl (bo g478) rfl rfl ?_
        refine RunT.ot0 (x := .v (.bool false)) rfl rfl rfl rfl (.pickF (bo g478) rfl) ?_
        refine RunT.ot0 (x := .v (.bool false)) rfl rfl rfl rfl (.assignX rfl) ?_
        refine RunT.nil ?_
        obtain rfl := si H
        refine T.sub (sub_to (st' := ⟨[(4, .v (.bool false))], [], 8, []⟩) [] (by decide) rfl rfl (⟨⟨_, rfl, .one .v⟩, trivial⟩) (trivial)) ?_
        refine T.ret ?_
        exact RetOk.same [.v (.bool false)] ⟨rfl, trivial⟩ rfl rfl rfl
end Go.Proofs.Ytlfpkjlaajfjnaa
