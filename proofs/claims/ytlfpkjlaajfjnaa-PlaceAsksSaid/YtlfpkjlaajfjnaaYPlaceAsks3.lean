/- The Go functions come to just what their plain forms come to: one contract each. -/
import Derived.Test.YtlfpkjlaajfjnaaYPlaceAsks2
set_option linter.unusedVariables false
set_option linter.unusedSimpArgs false
set_option maxRecDepth 100000
namespace Go.Proofs.Ytlfpkjlaajfjnaa
open Go Go.Sh Go.Px
attribute [local irreducible] Go.Sh.T Go.Sh.RunT Go.Sh.RunD
set_option maxHeartbeats 4000000 in
theorem ref6_Hall_May_pc (al : Bool) (k : Nat) (a0 : Ref6Hall) (a1 : Party) (a2 : Int) (o : Bool) (H : ref6_Hall_May k a0 a1 a2 = some o) : PC Try.prog al 110 [.rptr [.lst (List.map eSeat a0.V.Seats), .v (.int .i64 a0.V.Gap), .v (.int .i64 a0.V.Radius), .lst (List.map eI a0.V.Kills), .lst (List.map ePole a0.V.Poles), .lst (List.map eB a0.U)], .agg [.v (.int .i64 a1.Size), .v (.int .i64 a1.Wheels)], .v (.int .i64 a2)] (.v (.bool o)) := by
  unfold ref6_Hall_May at H
  refine PC.of_T Try.func110 rfl rfl (n := 85) rfl rfl (.inr rfl) ?_
  intro base B w0
  refine T.st (st' := ⟨[(0, .rptr [.lst (List.map eSeat a0.V.Seats), .v (.int .i64 a0.V.Gap), .v (.int .i64 a0.V.Radius), .lst (List.map eI a0.V.Kills), .lst (List.map ePole a0.V.Poles), .lst (List.map eB a0.U)]), (1, .agg [.v (.int .i64 a1.Size), .v (.int .i64 a1.Wheels)]), (2, .v (.int .i64 a2))], [], 0, []⟩) rfl ?_
  refine T.seq ?_
  refine T.region ?_
  refine RunT.ot1 (x := .ptr 0 0) (p0 := (0, some (.box [.v (.int .i64 a1.Size), .v (.int .i64 a1.Wheels)]))) (n' := 8) rfl rfl rfl rfl (.boxX rfl rfl rfl) rfl ?_
  refine RunT.ot0 (x := .v (.bool false)) rfl rfl rfl rfl (.assignX rfl) ?_
  refine RunT.nil ?_
  refine T.seq ?_
  obtain ⟨o6, E7, HO8⟩ := bs H
  refine T.cut (⟨[(0, .rptr [.lst (List.map eSeat a0.V.Seats), .v (.int .i64 a0.V.Gap), .v (.int .i64 a0.V.Radius), .lst (List.map eI a0.V.Kills), .lst (List.map ePole a0.V.Poles), .lst (List.map eB a0.U)]), (2, .v (.int .i64 a2)), (4, .ptr 0 0), (28, .v (.bool o6))], [(0, some (.box [.v (.int .i64 a1.Size), .v (.int .i64 a1.Wheels)]))], 8, []⟩) ?_ ?_
  · have H := E7
    refine T.sub (sub_pick [0, 2, 4] [0] (st' := ⟨[(0, .rptr [.lst (List.map eSeat a0.V.Seats), .v (.int .i64 a0.V.Gap), .v (.int .i64 a0.V.Radius), .lst (List.map eI a0.V.Kills), .lst (List.map ePole a0.V.Poles), .lst (List.map eB a0.U)]), (2, .v (.int .i64 a2)), (4, .ptr 0 0)], [(0, some (.box [.v (.int .i64 a1.Size), .v (.int .i64 a1.Wheels)]))], 8, []⟩) rfl rfl rfl rfl rfl) ?_
    refine T.draw (wr := []) mixed rfl rfl ?_ rfl
    refine RunD.ot0 (x := .agg [.v (.int .i64 a1.Size), .v (.int .i64 a1.Wheels)]) rfl rfl rfl rfl (.loadP ty66 rfl rfl rfl) rfl ?_
    obtain ⟨r14, h15, H⟩ := bs H
    refine RunD.ot0 (x := .v (.bool r14)) rfl rfl rfl rfl (.callp (ref6_MayParty_pc false k a1 r14 h15) rfl ⟨(.agg' ⟨.v, .v, trivial⟩), trivial⟩ rfl rfl rfl) rfl ?_
    refine RunD.ot0 (x := .v (.bool (!r14))) rfl rfl rfl rfl (.un rfl (fun w => u_not w) rfl) rfl ?_
    refine RunD.ot0 (x := .v (.bool (!r14))) rfl rfl rfl rfl (.moveX rfl) rfl ?_
    refine RunD.cases (t := 14) (c := !r14) rfl (fun g16 => ?_) (fun g16 => ?_)
    · replace H := ct H g16
      refine RunD.xn rfl rfl rfl (bo g16) rfl rfl ?_
      refine RunD.xn rfl rfl rfl (bo g16) rfl rfl ?_
      refine RunD.xn rfl rfl rfl (bo g16) rfl rfl ?_
      refine RunD.xn rfl rfl rfl (bo g16) rfl rfl ?_
      refine RunD.xn rfl rfl rfl (bo g16) rfl rfl ?_
      refine RunD.xn rfl rfl rfl (bo g16) rfl rfl ?_
      refine RunD.xn rfl rfl rfl (bo g16) rfl rfl ?_
      refine RunD.xn rfl rfl rfl (bo g16) rfl rfl ?_
      refine RunD.xn rfl rfl rfl (bo g16) rfl rfl ?_
      refine RunD.xn rfl rfl rfl (bo g16) rfl rfl ?_
      refine RunD.xn rfl rfl rfl (bo g16) rfl rfl ?_
      refine RunD.xn rfl rfl rfl (bo g16) rfl rfl ?_
      refine RunD.xn rfl rfl rfl (bo g16) rfl rfl ?_
      refine RunD.ot0 (x := .v (.bool true)) rfl rfl rfl rfl (.pickT (bo g16) rfl) rfl ?_
      refine RunD.nil (by kernel_rfl) ⟨rfl, rfl, ?_⟩
      obtain rfl := si H
      exact (sub_to [some 0] (by decide) rfl rfl (⟨⟨_, rfl, .one .rptr⟩, ⟨⟨_, rfl, .one .v⟩, ⟨⟨_, rfl, .one (.ptr rfl)⟩, ⟨⟨_, rfl, .one .v⟩, trivial⟩⟩⟩⟩) (⟨⟨rfl, .inl ⟨_, _, rfl, rfl, .box ⟨.v, .v, trivial⟩⟩⟩, trivial⟩))
    · replace H := cf H g16
      refine RunD.gt0 (x := .rptr [.lst (List.map eSeat a0.V.Seats), .v (.int .i64 a0.V.Gap), .v (.int .i64 a0.V.Radius), .lst (List.map eI a0.V.Kills), .lst (List.map ePole a0.V.Poles), .lst (List.map eB a0.U)]) rfl rfl rfl (bo g16) rfl rfl (.moveX rfl) rfl ?_
      refine RunD.gt0 (x := .rptr [.lst (List.map eSeat a0.V.Seats), .v (.int .i64 a0.V.Gap), .v (.int .i64 a0.V.Radius), .lst (List.map eI a0.V.Kills), .lst (List.map ePole a0.V.Poles), .lst (List.map eB a0.U)]) rfl rfl rfl (bo g16) rfl rfl (.nilR rfl) rfl ?_
      refine RunD.gt0 (x := .rptr [.lst (List.map eSeat a0.V.Seats), .v (.int .i64 a0.V.Gap), .v (.int .i64 a0.V.Radius), .lst (List.map eI a0.V.Kills), .lst (List.map ePole a0.V.Poles), .lst (List.map eB a0.U)]) rfl rfl rfl (bo g16) rfl rfl (.fieldRX fl148_0 rfl rfl) rfl ?_
      refine RunD.gt0 (x := .agg [.lst (List.map eSeat a0.V.Seats), .v (.int .i64 a0.V.Gap), .v (.int .i64 a0.V.Radius), .lst (List.map eI a0.V.Kills), .lst (List.map ePole a0.V.Poles)]) rfl rfl rfl (bo g16) rfl rfl (.loadR ty26 rfl rfl) rfl ?_
      refine RunD.gt0 (x := .rptr [.lst (List.map eSeat a0.V.Seats), .v (.int .i64 a0.V.Gap), .v (.int .i64 a0.V.Radius), .lst (List.map eI a0.V.Kills), .lst (List.map ePole a0.V.Poles), .lst (List.map eB a0.U)]) rfl rfl rfl (bo g16) rfl rfl (.moveX rfl) rfl ?_
      refine RunD.gt0 (x := .rptr [.lst (List.map eSeat a0.V.Seats), .v (.int .i64 a0.V.Gap), .v (.int .i64 a0.V.Radius), .lst (List.map eI a0.V.Kills), .lst (List.map ePole a0.V.Poles), .lst (List.map eB a0.U)]) rfl rfl rfl (bo g16) rfl rfl (.nilR rfl) rfl ?_
      refine RunD.gt0 (x := .rptr [.lst (List.map eB a0.U)]) rfl rfl rfl (bo g16) rfl rfl (.fieldRX fl148_1 rfl rfl) rfl ?_
      refine RunD.gt0 (x := .lst (List.map eB a0.U)) rfl rfl rfl (bo g16) rfl rfl (.loadR ty43 rfl rfl) rfl ?_
      refine RunD.gt0 (x := .v (.int .i64 a2)) rfl rfl rfl (bo g16) rfl rfl (.moveX rfl) rfl ?_
      obtain ⟨r17, h18, H⟩ := bs H
      refine RunD.gt0 (x := .v (.int .i64 r17)) rfl rfl rfl (bo g16) rfl rfl (.callp (ref6_long_pc false k a0.V a0.U a2 r17 h18) rfl ⟨(.agg' ⟨.lst, .v, .v, .lst, .lst, trivial⟩), (.one .lst), (.one .v), trivial⟩ rfl rfl rfl) rfl ?_
      refine RunD.gt0 (x := .ptr 0 0) rfl rfl rfl (bo g16) rfl rfl (.fieldPX fl66_0 rfl rfl) rfl ?_
      refine RunD.gt0 (x := .v (.int .i64 a1.Size)) rfl rfl rfl (bo g16) rfl rfl (.loadP ty3 rfl rfl rfl) rfl ?_
      refine RunD.gt0 (x := .v (.bool (decide (r17 < a1.Size)))) rfl rfl rfl (bo g16) rfl rfl (.bin rfl rfl (fun w => b_lss w) rfl) rfl ?_
      refine RunD.ot0 (x := .v (.bool (decide (r17 < a1.Size)))) rfl rfl rfl rfl (.pickF (bo g16) rfl) rfl ?_
      refine RunD.nil (by kernel_rfl) ⟨rfl, rfl, ?_⟩
      obtain rfl := si H
      exact (sub_to [some 0] (by decide) rfl rfl (⟨⟨_, rfl, .one .rptr⟩, ⟨⟨_, rfl, .one .v⟩, ⟨⟨_, rfl, .one (.ptr rfl)⟩, ⟨⟨_, rfl, .one .v⟩, trivial⟩⟩⟩⟩) (⟨⟨rfl, .inl ⟨_, _, rfl, rfl, .box ⟨.v, .v, trivial⟩⟩⟩, trivial⟩))
  · have H := HO8
    refine T.cond2 (t := o6) rfl (fun c19 => ?_) (fun c19 => ?_)
    · replace H := ct H c19
      refine T.seq ?_
      refine T.sub (sub_pick [] [] (st' := ⟨[], [], 8, []⟩) rfl rfl rfl rfl rfl) ?_
      refine T.region ?_
      refine RunT.ot0 (x := .v (.bool false)) rfl rfl rfl rfl (.assignX rfl) ?_
      refine RunT.nil ?_
      obtain rfl := si H
      refine T.sub (sub_to (st' := ⟨[(6, .v (.bool false))], [], 8, []⟩) [] (by decide) rfl rfl (⟨⟨_, rfl, .one .v⟩, trivial⟩) (trivial)) ?_
      refine T.ret ?_
      exact RetOk.same [.v (.bool false)] ⟨rfl, trivial⟩ rfl rfl rfl
    · replace H := cf H c19
      refine T.skip ?_
      refine T.seq ?_
      refine T.region ?_
      refine RunT.ot0 (x := .v (.int .i64 a2)) rfl rfl rfl rfl (.moveX rfl) ?_
      refine RunT.ot0 (x := .ptr 0 0) rfl rfl rfl rfl (.fieldPX fl66_0 rfl rfl) ?_
      refine RunT.ot0 (x := .v (.int .i64 a1.Size)) rfl rfl rfl rfl (.loadP ty3 rfl rfl rfl) ?_
      refine RunT.ot0 (x := .v (.int .i64 (wr (a2 + a1.Size)))) rfl rfl rfl rfl (.bin rfl rfl (fun w => b_addw w) rfl) ?_
      refine RunT.ot0 (x := .v (.int .i64 (wr ((wr (a2 + a1.Size)) - 1)))) rfl rfl rfl rfl (.bin rfl rfl (fun w => b_subw w) rfl) ?_
      refine RunT.ot0 (x := .v (.int .i64 (wr ((wr (a2 + a1.Size)) - 1)))) rfl rfl rfl rfl (.assignX rfl) ?_
      refine RunT.nil ?_
      refine T.seq ?_
      refine T.region ?_
      refine RunT.ot0 (x := .v (.int .i64 0)) rfl rfl rfl rfl (.assignX rfl) ?_
      refine RunT.ot0 (x := .v (.int .i64 0)) rfl rfl rfl rfl (.assignX rfl) ?_
      refine RunT.nil ?_
      refine T.seq ?_
      refine T.seq ?_
      refine T.region ?_
      refine RunT.ot0 (x := .v (.int .i64 a2)) rfl rfl rfl rfl (.moveX rfl) ?_
      refine RunT.ot0 (x := .v (.int .i64 a2)) rfl rfl rfl rfl (.assignX rfl) ?_
      refine RunT.nil ?_
      obtain ⟨o45, E46, HO47⟩ := bs H
      refine T.cutPE (fun v48 => o45 = .go v48) (fun v48 => ⟨[(4, .ptr 0 0), (8, .v (.int .i64 v48.1)), (9, .v (.int .i64 v48.2))], [(0, some (.box [.v (.int .i64 a1.Size), .v (.int .i64 a1.Wheels)]))], 8, []⟩) ?_ ?_
      · have H := E46
        refine T.block ?_
        refine T.loopS (fun n s => ∃ (v49 : Int) (v50 : Int) (v51 : Int), ref6_Hall_May_l0 k a0 a1 a2 n v49 v50 v51 = some o45 ∧ s = ⟨[(0, .rptr [.lst (List.map eSeat a0.V.Seats), .v (.int .i64 a0.V.Gap), .v (.int .i64 a0.V.Radius), .lst (List.map eI a0.V.Kills), .lst (List.map ePole a0.V.Poles), .lst (List.map eB a0.U)]), (2, .v (.int .i64 a2)), (4, .ptr 0 0), (7, .v (.int .i64 (wr ((wr (a2 + a1.Size)) - 1)))), (8, .v (.int .i64 v49)), (9, .v (.int .i64 v50)), (10, .v (.int .i64 v51))], [(0, some (.box [.v (.int .i64 a1.Size), .v (.int .i64 a1.Wheels)]))], 8, []⟩) k ⟨_, ⟨0, 0, a2, H, rfl⟩, sub_to [some 0] (by decide) rfl rfl (⟨⟨_, rfl, .one .rptr⟩, ⟨⟨_, rfl, .one .v⟩, ⟨⟨_, rfl, .one (.ptr rfl)⟩, ⟨⟨_, rfl, .one .v⟩, ⟨⟨_, rfl, .one .v⟩, ⟨⟨_, rfl, .one .v⟩, ⟨⟨_, rfl, .one .v⟩, trivial⟩⟩⟩⟩⟩⟩⟩) (⟨⟨rfl, .inl ⟨_, _, rfl, rfl, .box ⟨.v, .v, trivial⟩⟩⟩, trivial⟩)⟩ ?_
        rintro n s ⟨v49, v50, v51, H, rfl⟩
        rcases n with _ | n
        · cases (show none = some _ from H)
        rw [ref6_Hall_May_l0] at H
        refine T.seq ?_
        refine T.seq ?_
        refine T.region ?_
        refine RunT.ot0 (x := .v (.int .i64 v51)) rfl rfl rfl rfl (.moveX rfl) ?_
        refine RunT.ot0 (x := .v (.int .i64 (wr ((wr (a2 + a1.Size)) - 1)))) rfl rfl rfl rfl (.moveX rfl) ?_
        refine RunT.ot0 (x := .v (.bool (decide (v51 ≤ (wr ((wr (a2 + a1.Size)) - 1)))))) rfl rfl rfl rfl (.bin rfl rfl (fun w => b_leq w) rfl) ?_
        refine RunT.nil ?_
        refine T.cond2 (t := decide (v51 ≤ (wr ((wr (a2 + a1.Size)) - 1)))) rfl (fun c52 => ?_) (fun c52 => ?_)
        · replace H := ct H c52
          refine T.skip ?_
          refine T.seq ?_
          refine T.block ?_
          refine T.seq ?_
          refine T.region ?_
          refine RunT.ot0 (x := .rptr [.lst (List.map eSeat a0.V.Seats), .v (.int .i64 a0.V.Gap), .v (.int .i64 a0.V.Radius), .lst (List.map eI a0.V.Kills), .lst (List.map ePole a0.V.Poles), .lst (List.map eB a0.U)]) rfl rfl rfl rfl (.moveX rfl) ?_
          refine RunT.ot0 (x := .rptr [.lst (List.map eSeat a0.V.Seats), .v (.int .i64 a0.V.Gap), .v (.int .i64 a0.V.Radius), .lst (List.map eI a0.V.Kills), .lst (List.map ePole a0.V.Poles), .lst (List.map eB a0.U)]) rfl rfl rfl rfl (.nilR rfl) ?_
          refine RunT.ot0 (x := .rptr [.lst (List.map eSeat a0.V.Seats), .v (.int .i64 a0.V.Gap), .v (.int .i64 a0.V.Radius), .lst (List.map eI a0.V.Kills), .lst (List.map ePole a0.V.Poles), .lst (List.map eB a0.U)]) rfl rfl rfl rfl (.fieldRX fl148_0 rfl rfl) ?_
          refine RunT.ot0 (x := .rptr [.lst (List.map eSeat a0.V.Seats), .v (.int .i64 a0.V.Gap), .v (.int .i64 a0.V.Radius), .lst (List.map eI a0.V.Kills), .lst (List.map ePole a0.V.Poles), .lst (List.map eB a0.U)]) rfl rfl rfl rfl (.fieldRX fl26_0 rfl rfl) ?_
          refine RunT.ot0 (x := .lst (List.map eSeat a0.V.Seats)) rfl rfl rfl rfl (.loadR ty22 rfl rfl) ?_
          refine RunT.ot0 (x := .v (.int .i64 v51)) rfl rfl rfl rfl (.moveX rfl) ?_
          obtain ⟨y53, h54, H⟩ := bs H
          refine RunT.ot0 (x := .rptr [.v (.int .i64 y53.Row), .v (.int .i64 y53.X), .v (.int .i64 y53.Y), .v (.int .i64 y53.Kind)]) rfl rfl rfl rfl (.idxLX h54 enc_Seat sl22 rfl rfl rfl) ?_
          refine RunT.ot0 (x := .rptr [.v (.int .i64 y53.Kind)]) rfl rfl rfl rfl (.fieldRX fl28_3 rfl rfl) ?_
          refine RunT.ot0 (x := .v (.int .i64 y53.Kind)) rfl rfl rfl rfl (.loadR ty3 rfl rfl) ?_
          refine RunT.nil ?_
          refine T.block ?_
          refine T.seq ?_
          refine T.region ?_
          refine RunT.ot0 (x := .v (.bool (decide (y53.Kind = 1)))) rfl rfl rfl rfl (.bin rfl rfl (fun w => b_eql w) rfl) ?_
          refine RunT.ot0 (x := .v (.bool (decide (y53.Kind = 1)))) rfl rfl rfl rfl (.assignX rfl) ?_
          refine RunT.nil ?_
          refine T.cond2 (t := decide (y53.Kind = 1)) rfl (fun c55 => ?_) (fun c55 => ?_)
          · replace H := ct H c55
            refine T.seq ?_
            refine T.sub (sub_pick [0, 2, 4, 7, 8, 9, 10] [0] (st' := ⟨[(0, .rptr [.lst (List.map eSeat a0.V.Seats), .v (.int .i64 a0.V.Gap), .v (.int .i64 a0.V.Radius), .lst (List.map eI a0.V.Kills), .lst (List.map ePole a0.V.Poles), .lst (List.map eB a0.U)]), (2, .v (.int .i64 a2)), (4, .ptr 0 0), (7, .v (.int .i64 (wr ((wr (a2 + a1.Size)) - 1)))), (8, .v (.int .i64 v49)), (9, .v (.int .i64 v50)), (10, .v (.int .i64 v51))], [(0, some (.box [.v (.int .i64 a1.Size), .v (.int .i64 a1.Wheels)]))], 8, []⟩) rfl rfl rfl rfl rfl) ?_
            refine T.region ?_
            refine RunT.ot0 (x := .v (.int .i64 v49)) rfl rfl rfl rfl (.moveX rfl) ?_
            refine RunT.ot0 (x := .v (.int .i64 (wr (v49 + 1)))) rfl rfl rfl rfl (.bin rfl rfl (fun w => b_addw w) rfl) ?_
            refine RunT.ot0 (x := .v (.int .i64 (wr (v49 + 1)))) rfl rfl rfl rfl (.assignX rfl) ?_
            refine RunT.nil ?_
            refine T.seq ?_
            refine T.region ?_
            refine RunT.ot0 (x := .rptr [.lst (List.map eSeat a0.V.Seats), .v (.int .i64 a0.V.Gap), .v (.int .i64 a0.V.Radius), .lst (List.map eI a0.V.Kills), .lst (List.map ePole a0.V.Poles), .lst (List.map eB a0.U)]) rfl rfl rfl rfl (.moveX rfl) ?_
            refine RunT.ot0 (x := .v (.int .i64 v51)) rfl rfl rfl rfl (.moveX rfl) ?_
            refine RunT.ot0 (x := .v (.int .i64 (wr (v51 - 1)))) rfl rfl rfl rfl (.bin rfl rfl (fun w => b_subw w) rfl) ?_
            refine RunT.ot0 (x := .v (.int .i64 a2)) rfl rfl rfl rfl (.moveX rfl) ?_
            refine RunT.ot0 (x := .v (.int .i64 (wr ((wr (a2 + a1.Size)) - 1)))) rfl rfl rfl rfl (.moveX rfl) ?_
            obtain ⟨r56, h57, H⟩ := bs H
            refine RunT.ot0 (x := .v (.int .i64 r56)) rfl rfl rfl rfl (.callp (ref6_Hall_kind_pc false k a0 (wr (v51 - 1)) a2 (wr ((wr (a2 + a1.Size)) - 1)) r56 h57) rfl ⟨(.one .rptr), (.one .v), (.one .v), (.one .v), trivial⟩ rfl rfl rfl) ?_
            refine RunT.ot0 (x := .v (.bool (!decide (r56 = 2)))) rfl rfl rfl rfl (.bin rfl rfl (fun w => b_neq w) rfl) ?_
            refine RunT.ot0 (x := .v (.bool (!decide (r56 = 2)))) rfl rfl rfl rfl (.moveX rfl) ?_
            refine RunT.cases (t := 60) (c := !decide (r56 = 2)) rfl (fun g58 => ?_) (fun g58 => ?_)
            · replace H := ct H g58
              refine RunT.gt0 (x := .rptr [.lst (List.map eSeat a0.V.Seats), .v (.int .i64 a0.V.Gap), .v (.int .i64 a0.V.Radius), .lst (List.map eI a0.V.Kills), .lst (List.map ePole a0.V.Poles), .lst (List.map eB a0.U)]) rfl rfl rfl (bo g58) rfl rfl (.moveX rfl) ?_
              refine RunT.gt0 (x := .v (.int .i64 v51)) rfl rfl rfl (bo g58) rfl rfl (.moveX rfl) ?_
              refine RunT.gt0 (x := .v (.int .i64 (wr (v51 + 1)))) rfl rfl rfl (bo g58) rfl rfl (.bin rfl rfl (fun w => b_addw w) rfl) ?_
              refine RunT.gt0 (x := .v (.int .i64 a2)) rfl rfl rfl (bo g58) rfl rfl (.moveX rfl) ?_
              refine RunT.gt0 (x := .v (.int .i64 (wr ((wr (a2 + a1.Size)) - 1)))) rfl rfl rfl (bo g58) rfl rfl (.moveX rfl) ?_
              obtain ⟨r59, h60, H⟩ := bs H
              refine RunT.gt0 (x := .v (.int .i64 r59)) rfl rfl rfl (bo g58) rfl rfl (.callp (ref6_Hall_kind_pc false k a0 (wr (v51 + 1)) a2 (wr ((wr (a2 + a1.Size)) - 1)) r59 h60) rfl ⟨(.one .rptr), (.one .v), (.one .v), (.one .v), trivial⟩ rfl rfl rfl) ?_
              refine RunT.gt0 (x := .v (.bool (!decide (r59 = 2)))) rfl rfl rfl (bo g58) rfl rfl (.bin rfl rfl (fun w => b_neq w) rfl) ?_
              refine RunT.ot0 (x := .v (.bool (!decide (r59 = 2)))) rfl rfl rfl rfl (.pickT (bo g58) rfl) ?_
              refine RunT.nil ?_
              refine T.cond2 (t := !decide (r59 = 2)) rfl (fun c61 => ?_) (fun c61 => ?_)
              · replace H := ct H c61
                refine T.seq ?_
                refine T.sub (sub_pick [] [] (st' := ⟨[], [], 8, []⟩) rfl rfl rfl rfl rfl) ?_
                refine T.region ?_
                refine RunT.ot0 (x := .v (.bool false)) rfl rfl rfl rfl (.assignX rfl) ?_
                refine RunT.nil ?_
                obtain rfl := si H
                have HX := exr HO47
                obtain rfl := si HX
                refine T.sub (sub_to (st' := ⟨[(6, .v (.bool false))], [], 8, []⟩) [] (by decide) rfl rfl (⟨⟨_, rfl, .one .v⟩, trivial⟩) (trivial)) ?_
                refine T.ret ?_
                exact RetOk.same [.v (.bool false)] ⟨rfl, trivial⟩ rfl rfl rfl
              · replace H := cf H c61
                refine T.skip ?_
                refine T.region ?_
                refine RunT.ot0 (x := .v (.int .i64 v51)) rfl rfl rfl rfl (.moveX rfl) ?_
                refine RunT.ot0 (x := .v (.int .i64 (wr (v51 + 1)))) rfl rfl rfl rfl (.bin rfl rfl (fun w => b_addw w) rfl) ?_
                refine RunT.ot0 (x := .v (.int .i64 (wr (v51 + 1)))) rfl rfl rfl rfl (.assignX rfl) ?_
                refine RunT.nil ?_
                exact ⟨n, Nat.lt_succ_self n, _, ⟨wr (v49 + 1), v50, wr (v51 + 1), H, rfl⟩, (sub_to [some 0] (by decide) rfl rfl (⟨⟨_, rfl, .one .rptr⟩, ⟨⟨_, rfl, .one .v⟩, ⟨⟨_, rfl, .one (.ptr rfl)⟩, ⟨⟨_, rfl, .one .v⟩, ⟨⟨_, rfl, .one .v⟩, ⟨⟨_, rfl, .one .v⟩, ⟨⟨_, rfl, .one .v⟩, trivial⟩⟩⟩⟩⟩⟩⟩) (⟨⟨rfl, .inl ⟨_, _, rfl, rfl, .box ⟨.v, .v, trivial⟩⟩⟩, trivial⟩))⟩
            · replace H := cf H g58
              refine RunT.xn rfl rfl rfl (bo g58) rfl rfl ?_
              refine RunT.xn rfl rfl rfl (bo g58) rfl rfl ?_
              refine RunT.xn rfl rfl rfl (bo g58) rfl rfl ?_
              refine RunT.xn rfl rfl rfl (bo g58) rfl rfl ?_
              refine RunT.xn rfl rfl rfl (bo g58) rfl rfl ?_
              refine RunT.xn rfl rfl rfl (bo g58) rfl rfl ?_
              refine RunT.xn rfl rfl rfl (bo g58) rfl rfl ?_
              refine RunT.ot0 (x := .v (.bool false)) rfl rfl rfl rfl (.pickF (bo g58) rfl) ?_
              refine RunT.nil ?_
              refine T.condF rfl ?_
              refine T.skip ?_
              refine T.region ?_
              refine RunT.ot0 (x := .v (.int .i64 v51)) rfl rfl rfl rfl (.moveX rfl) ?_
              refine RunT.ot0 (x := .v (.int .i64 (wr (v51 + 1)))) rfl rfl rfl rfl (.bin rfl rfl (fun w => b_addw w) rfl) ?_
              refine RunT.ot0 (x := .v (.int .i64 (wr (v51 + 1)))) rfl rfl rfl rfl (.assignX rfl) ?_
              refine RunT.nil ?_
              exact ⟨n, Nat.lt_succ_self n, _, ⟨wr (v49 + 1), v50, wr (v51 + 1), H, rfl⟩, (sub_to [some 0] (by decide) rfl rfl (⟨⟨_, rfl, .one .rptr⟩, ⟨⟨_, rfl, .one .v⟩, ⟨⟨_, rfl, .one (.ptr rfl)⟩, ⟨⟨_, rfl, .one .v⟩, ⟨⟨_, rfl, .one .v⟩, ⟨⟨_, rfl, .one .v⟩, ⟨⟨_, rfl, .one .v⟩, trivial⟩⟩⟩⟩⟩⟩⟩) (⟨⟨rfl, .inl ⟨_, _, rfl, rfl, .box ⟨.v, .v, trivial⟩⟩⟩, trivial⟩))⟩
          · replace H := cf H c55
            refine T.seq ?_
            refine T.region ?_
            refine RunT.ot0 (x := .v (.bool (decide (y53.Kind = 2)))) rfl rfl rfl rfl (.bin rfl rfl (fun w => b_eql w) rfl) ?_
            refine RunT.ot0 (x := .v (.bool (decide (y53.Kind = 2)))) rfl rfl rfl rfl (.assignX rfl) ?_
            refine RunT.nil ?_
            refine T.cond2 (t := decide (y53.Kind = 2)) rfl (fun c62 => ?_) (fun c62 => ?_)
            · replace H := ct H c62
              refine T.region ?_
              refine RunT.ot0 (x := .v (.int .i64 v50)) rfl rfl rfl rfl (.moveX rfl) ?_
              refine RunT.ot0 (x := .v (.int .i64 (wr (v50 + 1)))) rfl rfl rfl rfl (.bin rfl rfl (fun w => b_addw w) rfl) ?_
              refine RunT.ot0 (x := .v (.int .i64 (wr (v50 + 1)))) rfl rfl rfl rfl (.assignX rfl) ?_
              refine RunT.nil ?_
              refine T.region ?_
              refine RunT.ot0 (x := .v (.int .i64 v51)) rfl rfl rfl rfl (.moveX rfl) ?_
              refine RunT.ot0 (x := .v (.int .i64 (wr (v51 + 1)))) rfl rfl rfl rfl (.bin rfl rfl (fun w => b_addw w) rfl) ?_
              refine RunT.ot0 (x := .v (.int .i64 (wr (v51 + 1)))) rfl rfl rfl rfl (.assignX rfl) ?_
              refine RunT.nil ?_
              exact ⟨n, Nat.lt_succ_self n, _, ⟨v49, wr (v50 + 1), wr (v51 + 1), H, rfl⟩, (sub_to [some 0] (by decide) rfl rfl (⟨⟨_, rfl, .one .rptr⟩, ⟨⟨_, rfl, .one .v⟩, ⟨⟨_, rfl, .one (.ptr rfl)⟩, ⟨⟨_, rfl, .one .v⟩, ⟨⟨_, rfl, .one .v⟩, ⟨⟨_, rfl, .one .v⟩, ⟨⟨_, rfl, .one .v⟩, trivial⟩⟩⟩⟩⟩⟩⟩) (⟨⟨rfl, .inl ⟨_, _, rfl, rfl, .box ⟨.v, .v, trivial⟩⟩⟩, trivial⟩))⟩
            · replace H := cf H c62
              refine T.skip ?_
              refine T.sub (sub_pick [0, 2, 4, 7, 8, 9, 10] [0] (st' := ⟨[(0, .rptr [.lst (List.map eSeat a0.V.Seats), .v (.int .i64 a0.V.Gap), .v (.int .i64 a0.V.Radius), .lst (List.map eI a0.V.Kills), .lst (List.map ePole a0.V.Poles), .lst (List.map eB a0.U)]), (2, .v (.int .i64 a2)), (4, .ptr 0 0), (7, .v (.int .i64 (wr ((wr (a2 + a1.Size)) - 1)))), (8, .v (.int .i64 v49)), (9, .v (.int .i64 v50)), (10, .v (.int .i64 v51))], [(0, some (.box [.v (.int .i64 a1.Size), .v (.int .i64 a1.Wheels)]))], 8, []⟩) rfl rfl rfl rfl rfl) ?_
              refine T.region ?_
              refine RunT.ot0 (x := .v (.int .i64 v51)) rfl rfl rfl rfl (.moveX rfl) ?_
              refine RunT.ot0 (x := .v (.int .i64 (wr (v51 + 1)))) rfl rfl rfl rfl (.bin rfl rfl (fun w => b_addw w) rfl) ?_
              refine RunT.ot0 (x := .v (.int .i64 (wr (v51 + 1)))) rfl rfl rfl rfl (.assignX rfl) ?_
              refine RunT.nil ?_
              exact ⟨n, Nat.lt_succ_self n, _, ⟨v49, v50, wr (v51 + 1), H, rfl⟩, (sub_to [some 0] (by decide) rfl rfl (⟨⟨_, rfl, .one .rptr⟩, ⟨⟨_, rfl, .one .v⟩, ⟨⟨_, rfl, .one (.ptr rfl)⟩, ⟨⟨_, rfl, .one .v⟩, ⟨⟨_, rfl, .one .v⟩, ⟨⟨_, rfl, .one .v⟩, ⟨⟨_, rfl, .one .v⟩, trivial⟩⟩⟩⟩⟩⟩⟩) (⟨⟨rfl, .inl ⟨_, _, rfl, rfl, .box ⟨.v, .v, trivial⟩⟩⟩, trivial⟩))⟩
        · replace H := cf H c52
          refine T.exit ?_
          obtain rfl := si H
          exact ⟨_, rfl, (sub_to [some 0] (by decide) rfl rfl (⟨⟨_, rfl, .one (.ptr rfl)⟩, ⟨⟨_, rfl, .one .v⟩, ⟨⟨_, rfl, .one .v⟩, trivial⟩⟩⟩) (⟨⟨rfl, .inl ⟨_, _, rfl, rfl, .box ⟨.v, .v, trivial⟩⟩⟩, trivial⟩))⟩
      · intro v48 s hR hS
        subst hR
        have H := exg HO47
        refine T.sub hS ?_
        refine T.seq ?_
        refine T.region ?_
        refine RunT.ot0 (x := .v (.int .i64 v48.1)) rfl rfl rfl rfl (.moveX rfl) ?_
        refine RunT.ot0 (x := .ptr 0 1) rfl rfl rfl rfl (.fieldPX fl66_1 rfl rfl) ?_
        refine RunT.ot0 (x := .v (.int .i64 a1.Wheels)) rfl rfl rfl rfl (.loadP ty3 rfl rfl rfl) ?_
        refine RunT.ot0 (x := .v (.bool (decide (v48.1 = a1.Wheels)))) rfl rfl rfl rfl (.bin rfl rfl (fun w => b_eql w) rfl) ?_
        refine RunT.ot0 (x := .v (.bool (decide (v48.1 = a1.Wheels)))) rfl rfl rfl rfl (.moveX rfl) ?_
        refine RunT.cases (t := 77) (c := decide (v48.1 = a1.Wheels)) rfl (fun g63 => ?_) (fun g63 => ?_)
        · replace H := ct H g63
          refine RunT.gt0 (x := .v (.int .i64 v48.1)) rfl rfl rfl (bo g63) rfl rfl (.moveX rfl) ?_
          refine RunT.gt0 (x := .v (.bool (decide (0 < v48.1)))) rfl rfl rfl (bo g63) rfl rfl (.bin rfl rfl (fun w => b_gtr w) rfl) ?_
          refine RunT.gt0 (x := .v (.bool (decide (0 < v48.1)))) rfl rfl rfl (bo g63) rfl rfl (.moveX rfl) ?_
          refine RunT.cases (t := 80) (c := decide (0 < v48.1)) rfl (fun g64 => ?_) (fun g64 => ?_)
          · replace H := ct H g64
            refine RunT.xn rfl rfl rfl (bo g64) rfl rfl ?_
            refine RunT.xn rfl rfl rfl (bo g64) rfl rfl ?_
            refine RunT.gt0 (x := .v (.bool true)) rfl rfl rfl (bo g63) rfl rfl (.pickT (bo g64) rfl) ?_
            refine RunT.ot0 (x := .v (.bool true)) rfl rfl rfl rfl (.pickT (bo g63) rfl) ?_
            refine RunT.ot0 (x := .v (.bool true)) rfl rfl rfl rfl (.assignX rfl) ?_
            refine RunT.nil ?_
            obtain rfl := si H
            refine T.sub (sub_to (st' := ⟨[(6, .v (.bool true))], [], 8, []⟩) [] (by decide) rfl rfl (⟨⟨_, rfl, .one .v⟩, trivial⟩) (trivial)) ?_
            refine T.ret ?_
            exact RetOk.same [.v (.bool true)] ⟨rfl, trivial⟩ rfl rfl rfl
          · replace H := cf H g64
            refine RunT.gt0 (x := .v (.int .i64 v48.2)) rfl rfl rfl (bo g64) rfl rfl (.moveX rfl) ?_
            refine RunT.gt0 (x := .v (.bool (decide (v48.2 = 0)))) rfl rfl rfl (bo g64) rfl rfl (.bin rfl rfl (fun w => b_eql w) rfl) ?_
            refine RunT.gt0 (x := .v (.bool (decide (v48.2 = 0)))) rfl rfl rfl (bo g63) rfl rfl (.pickF (bo g64) rfl) ?_
            refine RunT.ot0 (x := .v (.bool (decide (v48.2 = 0)))) rfl rfl rfl rfl (.pickT (bo g63) rfl) ?_
            refine RunT.ot0 (x := .v (.bool (decide (v48.2 = 0)))) rfl rfl rfl rfl (.assignX rfl) ?_
            refine RunT.nil ?_
            obtain rfl := si H
            refine T.sub (sub_to (st' := ⟨[(6, .v (.bool (decide (v48.2 = 0))))], [], 8, []⟩) [] (by decide) rfl rfl (⟨⟨_, rfl, .one .v⟩, trivial⟩) (trivial)) ?_
            refine T.ret ?_
            exact RetOk.same [.v (.bool (decide (v48.2 = 0)))] ⟨rfl, trivial⟩ rfl rfl rfl
        · replace H := cf H g63
          refine RunT.xn rfl rfl rfl (bo g63) rfl rfl ?_
          refine RunT.xn rfl rfl rfl (bo g63) rfl rfl ?_
          refine RunT.xn rfl rfl rfl (bo g63) rfl rfl ?_
          refine RunT.xu rfl rfl rfl rfl rfl rfl ?_
          refine RunT.xu rfl rfl rfl rfl rfl rfl ?_
          refine RunT.xn rfl rfl rfl (bo g63) rfl rfl ?_
          refine RunT.ot0 (x := .v (.bool false)) rfl rfl rfl rfl (.pickF (bo g63) rfl) ?_
          refine RunT.ot0 (x := .v (.bool false)) rfl rfl rfl rfl (.assignX rfl) ?_
          refine RunT.nil ?_
          obtain rfl := si H
          refine T.sub (sub_to (st' := ⟨[(6, .v (.bool false))], [], 8, []⟩) [] (by decide) rfl rfl (⟨⟨_, rfl, .one .v⟩, trivial⟩) (trivial)) ?_
          refine T.ret ?_
          exact RetOk.same [.v (.bool false)] ⟨rfl, trivial⟩ rfl rfl rfl
set_option maxHeartbeats 4000000 in
theorem ref6_MayPlace_pc (al : Bool) (k : Nat) (a0 : Venue) (a1 : Party) (a2 : Int) (o : Bool) (H : ref6_MayPlace k a0 a1 a2 = some o) : PC Try.prog al 60 [.agg [.lst (List.map eSeat a0.Seats), .v (.int .i64 a0.Gap), .v (.int .i64 a0.Radius), .lst (List.map eI a0.Kills), .lst (List.map ePole a0.Poles)], .agg [.v (.int .i64 a1.Size), .v (.int .i64 a1.Wheels)], .v (.int .i64 a2)] (.v (.bool o)) := by
  unfold ref6_MayPlace at H
  refine PC.of_T Try.func60 rfl rfl (n := 18) rfl rfl (.inr rfl) ?_
  intro base B w0
  refine T.st (st' := ⟨[(0, .agg [.lst (List.map eSeat a0.Seats), .v (.int .i64 a0.Gap), .v (.int .i64 a0.Radius), .lst (List.map eI a0.Kills), .lst (List.map ePole a0.Poles)]), (1, .agg [.v (.int .i64 a1.Size), .v (.int .i64 a1.Wheels)]), (2, .v (.int .i64 a2))], [], 0, []⟩) rfl ?_
  refine T.seq ?_
  refine T.region ?_
  refine RunT.ot1 (x := .ptr 0 0) (p0 := (0, some (.box [.lst (List.map eSeat a0.Seats), .v (.int .i64 a0.Gap), .v (.int .i64 a0.Radius), .lst (List.map eI a0.Kills), .lst (List.map ePole a0.Poles)]))) (n' := 8) rfl rfl rfl rfl (.boxX rfl rfl rfl) rfl ?_
  refine RunT.ot1 (x := .ptr 8 0) (p0 := (8, some (.box [.v (.int .i64 a1.Size), .v (.int .i64 a1.Wheels)]))) (n' := 16) rfl rfl rfl rfl (.boxX rfl rfl rfl) rfl ?_
  refine RunT.ot0 (x := .v (.bool false)) rfl rfl rfl rfl (.assignX rfl) ?_
  refine RunT.nil ?_
  refine T.seq ?_
  refine T.region ?_
  refine RunT.ot0 (x := .agg [.lst (List.map eSeat a0.Seats), .v (.int .i64 a0.Gap), .v (.int .i64 a0.Radius), .lst (List.map eI a0.Kills), .lst (List.map ePole a0.Poles)]) rfl rfl rfl rfl (.loadP ty26 rfl rfl rfl) ?_
  obtain ⟨r1, h2, H⟩ := bs H
  rcases r1 with _ | r3
  · have H := optn H
    refine RunT.ot0 (x := .v (.pointer none)) rfl rfl rfl rfl (.callp (ref6_NewHall_pc k a0 none h2) rfl ⟨(.same rfl), trivial⟩ rfl rfl rfl) ?_
    refine RunT.ot0 (x := .v (.pointer none)) rfl rfl rfl rfl (.assignX rfl) ?_
    refine RunT.nil ?_
    refine T.seq ?_
    refine T.region ?_
    refine RunT.ot0 (x := .v (.pointer none)) rfl rfl rfl rfl (.moveX rfl) ?_
    refine RunT.ot0 (x := .v (.bool false)) rfl rfl rfl rfl (.bin rfl rfl (fun w => neNN Try.underlying119 w) rfl) ?_
    refine RunT.ot0 (x := .v (.bool false)) rfl rfl rfl rfl (.moveX rfl) ?_
    refine RunT.xn rfl rfl rfl rfl rfl rfl ?_
    refine RunT.xn rfl rfl rfl rfl rfl rfl ?_
    refine RunT.xn rfl rfl rfl rfl rfl rfl ?_
    refine RunT.xn rfl rfl rfl rfl rfl rfl ?_
    refine RunT.ot0 (x := .v (.bool false)) rfl rfl rfl rfl (.pickF rfl rfl) ?_
    refine RunT.ot0 (x := .v (.bool false)) rfl rfl rfl rfl (.assignX rfl) ?_
    refine RunT.nil ?_
    obtain rfl := si H
    refine T.sub (sub_to (st' := ⟨[(6, .v (.bool false))], [], 8, []⟩) [] (by decide) rfl rfl (⟨⟨_, rfl, .one .v⟩, trivial⟩) (trivial)) ?_
    refine T.ret ?_
    exact RetOk.same [.v (.bool false)] ⟨rfl, trivial⟩ rfl rfl rfl
  · have H := opts H
    refine RunT.ot0 (x := .rptr [.lst (List.map eSeat r3.V.Seats), .v (.int .i64 r3.V.Gap), .v (.int .i64 r3.V.Radius), .lst (List.map eI r3.V.Kills), .lst (List.map ePole r3.V.Poles), .lst (List.map eB r3.U)]) rfl rfl rfl rfl (.callp (ref6_NewHall_pc k a0 (some r3) h2) rfl ⟨(.same rfl), trivial⟩ rfl rfl rfl) ?_
    refine RunT.ot0 (x := .rptr [.lst (List.map eSeat r3.V.Seats), .v (.int .i64 r3.V.Gap), .v (.int .i64 r3.V.Radius), .lst (List.map eI r3.V.Kills), .lst (List.map ePole r3.V.Poles), .lst (List.map eB r3.U)]) rfl rfl rfl rfl (.assignX rfl) ?_
    refine RunT.nil ?_
    refine T.seq ?_
    refine T.region ?_
    refine RunT.ot0 (x := .rptr [.lst (List.map eSeat r3.V.Seats), .v (.int .i64 r3.V.Gap), .v (.int .i64 r3.V.Radius), .lst (List.map eI r3.V.Kills), .lst (List.map ePole r3.V.Poles), .lst (List.map eB r3.U)]) rfl rfl rfl rfl (.moveX rfl) ?_
    refine RunT.ot0 (x := .v (.bool true)) rfl rfl rfl rfl (.nilcmp rfl rfl (fun a w => nePN Try.underlying119 a w)) ?_
    refine RunT.ot0 (x := .v (.bool true)) rfl rfl rfl rfl (.moveX rfl) ?_
    refine RunT.gt0 (x := .rptr [.lst (List.map eSeat r3.V.Seats), .v (.int .i64 r3.V.Gap), .v (.int .i64 r3.V.Radius), .lst (List.map eI r3.V.Kills), .lst (List.map ePole r3.V.Poles), .lst (List.map eB r3.U)]) rfl rfl rfl rfl rfl rfl (.moveX rfl) ?_
    refine RunT.gt0 (x := .agg [.v (.int .i64 a1.Size), .v (.int .i64 a1.Wheels)]) rfl rfl rfl rfl rfl rfl (.loadP ty66 rfl rfl rfl) ?_
    refine RunT.gt0 (x := .v (.int .i64 a2)) rfl rfl rfl rfl rfl rfl (.moveX rfl) ?_
    obtain ⟨r4, h5, H⟩ := bs H
    refine RunT.gt0 (x := .v (.bool r4)) rfl rfl rfl rfl rfl rfl (.callp (ref6_Hall_May_pc false k r3 a1 a2 r4 h5) rfl ⟨(.one .rptr), (.agg' ⟨.v, .v, trivial⟩), (.one .v), trivial⟩ rfl rfl rfl) ?_
    refine RunT.ot0 (x := .v (.bool r4)) rfl rfl rfl rfl (.pickT rfl rfl) ?_
    refine RunT.ot0 (x := .v (.bool r4)) rfl rfl rfl rfl (.assignX rfl) ?_
    refine RunT.nil ?_
    obtain rfl := si H
    refine T.sub (sub_to (st' := ⟨[(6, .v (.bool r4))], [], 8, []⟩) [] (by decide) rfl rfl (⟨⟨_, rfl, .one .v⟩, trivial⟩) (trivial)) ?_
    refine T.ret ?_
    exact RetOk.same [.v (.bool r4)] ⟨rfl, trivial⟩ rfl rfl rfl
set_option maxHeartbeats 4000000 in
theorem ref6_clash_pc (al : Bool) (k : Nat) (a0 : Venue) (a1 : Int) (a2 : Int) (o : Bool) (H : ref6_clash k a0 a1 a2 = some o) : PC Try.prog al 94 [.agg [.lst (List.map eSeat a0.Seats), .v (.int .i64 a0.Gap), .v (.int .i64 a0.Radius), .lst (List.map eI a0.Kills), .lst (List.map ePole a0.Poles)], .v (.int .i64 a1), .v (.int .i64 a2)] (.v (.bool o)) := by
  unfold ref6_clash at H
  refine PC.of_T Try.func94 rfl rfl (n := 37) rfl rfl (.inr rfl) ?_
  intro base B w0
  refine T.st (st' := ⟨[(0, .agg [.lst (List.map eSeat a0.Seats), .v (.int .i64 a0.Gap), .v (.int .i64 a0.Radius), .lst (List.map eI a0.Kills), .lst (List.map ePole a0.Poles)]), (1, .v (.int .i64 a1)), (2, .v (.int .i64 a2))], [], 0, []⟩) rfl ?_
  refine T.seq ?_
  refine T.region ?_
  refine RunT.ot1 (x := .ptr 0 0) (p0 := (0, some (.box [.lst (List.map eSeat a0.Seats), .v (.int .i64 a0.Gap), .v (.int .i64 a0.Radius), .lst (List.map eI a0.Kills), .lst (List.map ePole a0.Poles)]))) (n' := 8) rfl rfl rfl rfl (.boxX rfl rfl rfl) rfl ?_
  refine RunT.ot0 (x := .v (.bool false)) rfl rfl rfl rfl (.assignX rfl) ?_
  refine RunT.nil ?_
  refine T.seq ?_
  refine T.draw (wr := []) mixed rfl rfl ?_ rfl
  refine RunD.ot0 (x := .agg [.lst (List.map eSeat a0.Seats), .v (.int .i64 a0.Gap), .v (.int .i64 a0.Radius), .lst (List.map eI a0.Kills), .lst (List.map ePole a0.Poles)]) rfl rfl rfl rfl (.loadP ty26 rfl rfl rfl) rfl ?_
  refine RunD.ot0 (x := .v (.int .i64 a1)) rfl rfl rfl rfl (.moveX rfl) rfl ?_
  obtain ⟨r16, h17, H⟩ := bs H
  refine RunD.ot0 (x := .v (.bool r16)) rfl rfl rfl rfl (.callp (ref6_seat_pc false k a0 a1 r16 h17) rfl ⟨(.agg' ⟨.lst, .v, .v, .lst, .lst, trivial⟩), (.one .v), trivial⟩ rfl rfl rfl) rfl ?_
  refine RunD.ot0 (x := .v (.bool r16)) rfl rfl rfl rfl (.moveX rfl) rfl ?_
  refine RunD.cases (t := 10) (c := r16) rfl (fun g18 => ?_) (fun g18 => ?_)
  · replace H := ct H g18
    refine RunD.gt0 (x := .agg [.lst (List.map eSeat a0.Seats), .v (.int .i64 a0.Gap), .v (.int .i64 a0.Radius), .lst (List.map eI a0.Kills), .lst (List.map ePole a0.Poles)]) rfl rfl rfl (bo g18) rfl rfl (.loadP ty26 rfl rfl rfl) rfl ?_
    refine RunD.gt0 (x := .v (.int .i64 a2)) rfl rfl rfl (bo g18) rfl rfl (.moveX rfl) rfl ?_
    obtain ⟨r19, h20, H⟩ := bs H
    refine RunD.gt0 (x := .v (.bool r19)) rfl rfl rfl (bo g18) rfl rfl (.callp (ref6_seat_pc false k a0 a2 r19 h20) rfl ⟨(.agg' ⟨.lst, .v, .v, .lst, .lst, trivial⟩), (.one .v), trivial⟩ rfl rfl rfl) rfl ?_
    refine RunD.ot0 (x := .v (.bool r19)) rfl rfl rfl rfl (.pickT (bo g18) rfl) rfl ?_
    refine RunD.ot0 (x := .v (.bool r19)) rfl rfl rfl rfl (.moveX rfl) rfl ?_
    refine RunD.cases (t := 15) (c := r19) rfl (fun g21 => ?_) (fun g21 => ?_)
    · replace H := ct H g21
      refine RunD.gt0 (x := .v (.int .i64 a1)) rfl rfl rfl (bo g21) rfl rfl (.moveX rfl) rfl ?_
      refine RunD.gt0 (x := .v (.int .i64 a2)) rfl rfl rfl (bo g21) rfl rfl (.moveX rfl) rfl ?_
      refine RunD.gt0 (x := .v (.bool (!decide (a1 = a2)))) rfl rfl rfl (bo g21) rfl rfl (.bin rfl rfl (fun w => b_neq w) rfl) rfl ?_
      refine RunD.ot0 (x := .v (.bool (!decide (a1 = a2)))) rfl rfl rfl rfl (.pickT (bo g21) rfl) rfl ?_
      refine RunD.ot0 (x := .v (.bool (!decide (a1 = a2)))) rfl rfl rfl rfl (.moveX rfl) rfl ?_
      refine RunD.cases (t := 20) (c := !decide (a1 = a2)) rfl (fun g22 => ?_) (fun g22 => ?_)
      · replace H := ct H g22
        refine RunD.gt0 (x := .ptr 0 0) rfl rfl rfl (bo g22) rfl rfl (.fieldPX fl26_0 rfl rfl) rfl ?_
        refine RunD.gt0 (x := .lst (List.map eSeat a0.Seats)) rfl rfl rfl (bo g22) rfl rfl (.loadP ty22 rfl rfl rfl) rfl ?_
        refine RunD.gt0 (x := .v (.int .i64 a1)) rfl rfl rfl (bo g22) rfl rfl (.moveX rfl) rfl ?_
        obtain ⟨y23, h24, H⟩ := bs H
        refine RunD.gt0 (x := .rptr [.v (.int .i64 y23.Row), .v (.int .i64 y23.X), .v (.int .i64 y23.Y), .v (.int .i64 y23.Kind)]) rfl rfl rfl (bo g22) rfl rfl (.idxLX h24 enc_Seat sl22 rfl rfl rfl) rfl ?_
        refine RunD.gt0 (x := .agg [.v (.int .i64 y23.Row), .v (.int .i64 y23.X), .v (.int .i64 y23.Y), .v (.int .i64 y23.Kind)]) rfl rfl rfl (bo g22) rfl rfl (.loadR ty28 rfl rfl) rfl ?_
        refine RunD.gt0 (x := .ptr 0 0) rfl rfl rfl (bo g22) rfl rfl (.fieldPX fl26_0 rfl rfl) rfl ?_
        refine RunD.gt0 (x := .lst (List.map eSeat a0.Seats)) rfl rfl rfl (bo g22) rfl rfl (.loadP ty22 rfl rfl rfl) rfl ?_
        refine RunD.gt0 (x := .v (.int .i64 a2)) rfl rfl rfl (bo g22) rfl rfl (.moveX rfl) rfl ?_
        obtain ⟨y25, h26, H⟩ := bs H
        refine RunD.gt0 (x := .rptr [.v (.int .i64 y25.Row), .v (.int .i64 y25.X), .v (.int .i64 y25.Y), .v (.int .i64 y25.Kind)]) rfl rfl rfl (bo g22) rfl rfl (.idxLX h26 enc_Seat sl22 rfl rfl rfl) rfl ?_
        refine RunD.gt0 (x := .agg [.v (.int .i64 y25.Row), .v (.int .i64 y25.X), .v (.int .i64 y25.Y), .v (.int .i64 y25.Kind)]) rfl rfl rfl (bo g22) rfl rfl (.loadR ty28 rfl rfl) rfl ?_
        obtain ⟨r27, h28, H⟩ := bs H
        refine RunD.gt0 (x := .v (.int .i64 r27)) rfl rfl rfl (bo g22) rfl rfl (.callp (ref6_Far_pc false k y23 y25 r27 h28) rfl ⟨(.agg' ⟨.v, .v, .v, .v, trivial⟩), (.agg' ⟨.v, .v, .v, .v, trivial⟩), trivial⟩ rfl rfl rfl) rfl ?_
        refine RunD.gt0 (x := .ptr 0 2) rfl rfl rfl (bo g22) rfl rfl (.fieldPX fl26_2 rfl rfl) rfl ?_
        refine RunD.gt0 (x := .v (.int .i64 a0.Radius)) rfl rfl rfl (bo g22) rfl rfl (.loadP ty3 rfl rfl rfl) rfl ?_
        obtain ⟨r29, h30, H⟩ := bs H
        refine RunD.gt0 (x := .v (.int .i64 r29)) rfl rfl rfl (bo g22) rfl rfl (.callp (ref6_square_pc false k a0.Radius 0 r29 h30) rfl ⟨(.one .v), (.one .v), trivial⟩ rfl rfl rfl) rfl ?_
        refine RunD.gt0 (x := .v (.bool (decide (r27 < r29)))) rfl rfl rfl (bo g22) rfl rfl (.bin rfl rfl (fun w => b_lss w) rfl) rfl ?_
        refine RunD.ot0 (x := .v (.bool (decide (r27 < r29)))) rfl rfl rfl rfl (.pickT (bo g22) rfl) rfl ?_
        refine RunD.ot0 (x := .v (.bool (decide (r27 < r29)))) rfl rfl rfl rfl (.assignX rfl) rfl ?_
        refine RunD.nil (by kernel_rfl) ⟨rfl, rfl, ?_⟩
        obtain rfl := si H
        refine T.sub (sub_to (st' := ⟨[(6, .v (.bool (decide (r27 < r29))))], [], 8, []⟩) [] (by decide) rfl rfl (⟨⟨_, rfl, .one .v⟩, trivial⟩) (trivial)) ?_
        refine T.ret ?_
        exact RetOk.same [.v (.bool (decide (r27 < r29)))] ⟨rfl, trivial⟩ rfl rfl rfl
      · replace H := cf H g22
        refine RunD.xn rfl rfl rfl (bo g22) rfl rfl ?_
        refine RunD.xn rfl rfl rfl (bo g22) rfl rfl ?_
        refine RunD.xn rfl rfl rfl (bo g22) rfl rfl ?_
        refine RunD.xn rfl rfl rfl (bo g22) rfl rfl ?_
        refine RunD.xn rfl rfl rfl (bo g22) rfl rfl ?_
        refine RunD.xn rfl rfl rfl (bo g22) rfl rfl ?_
        refine RunD.xn rfl rfl rfl (bo g22) rfl rfl ?_
        refine RunD.xn rfl rfl rfl (bo g22) rfl rfl ?_
        refine RunD.xn rfl rfl rfl (bo g22) rfl rfl ?_
        refine RunD.xn rfl rfl rfl (bo g22) rfl rfl ?_
        refine RunD.xn rfl rfl rfl (bo g22) rfl rfl ?_
        refine RunD.xn rfl rfl rfl (bo g22) rfl rfl ?_
        refine RunD.xn rfl rfl rfl (bo g22) rfl rfl ?_
        refine RunD.xn rfl rfl rfl (bo g22) rfl rfl ?_
        refine RunD.xn rfl rfl rfl (bo g22) rfl rfl ?_
        refine RunD.ot0 (x := .v (.bool false)) rfl rfl rfl rfl (.pickF (bo g22) rfl) rfl ?_
        refine RunD.ot0 (x := .v (.bool false)) rfl rfl rfl rfl (.assignX rfl) rfl ?_
        refine RunD.nil (by kernel_rfl) ⟨rfl, rfl, ?_⟩
        obtain rfl := si H
        refine T.sub (sub_to (st' := ⟨[(6, .v (.bool false))], [], 8, []⟩) [] (by decide) rfl rfl (⟨⟨_, rfl, .one .v⟩, trivial⟩) (trivial)) ?_
        refine T.ret ?_
        exact RetOk.same [.v (.bool false)] ⟨rfl, trivial⟩ rfl rfl rfl
    · replace H := cf H g21
      refine RunD.xn rfl rfl rfl (bo g21) rfl rfl ?_
      refine RunD.xn rfl rfl rfl (bo g21) rfl rfl ?_
      refine RunD.xn rfl rfl rfl (bo g21) rfl rfl ?_
      refine RunD.ot0 (x := .v (.bool false)) rfl rfl rfl rfl (.pickF (bo g21) rfl) rfl ?_
      refine RunD.ot0 (x := .v (.bool false)) rfl rfl rfl rfl (.moveX rfl) rfl ?_
      refine RunD.xn rfl rfl rfl rfl rfl rfl ?_
      refine RunD.xn rfl rfl rfl rfl rfl rfl ?_
      refine RunD.xn rfl rfl rfl rfl rfl rfl ?_
      refine RunD.xn rfl rfl rfl rfl rfl rfl ?_
      refine RunD.xn rfl rfl rfl rfl rfl rfl ?_
      refine RunD.xn rfl rfl rfl rfl rfl rfl ?_
      refine RunD.xn rfl rfl rfl rfl rfl rfl ?_
      refine RunD.xn rfl rfl rfl rfl rfl rfl ?_
      refine RunD.xn rfl rfl rfl rfl rfl rfl ?_
      refine RunD.xn rfl rfl rfl rfl rfl rfl ?_
      refine RunD.xn rfl rfl rfl rfl rfl rfl ?_
      refine RunD.xn rfl rfl rfl rfl rfl rfl ?_
      refine RunD.xn rfl rfl rfl rfl rfl rfl ?_
      refine RunD.xn rfl rfl rfl rfl rfl rfl ?_
      refine RunD.xn rfl rfl rfl rfl rfl rfl ?_
      refine RunD.ot0 (x := .v (.bool false)) rfl rfl rfl rfl (.pickF rfl rfl) rfl ?_
      refine RunD.ot0 (x := .v (.bool false)) rfl rfl rfl rfl (.assignX rfl) rfl ?_
      refine RunD.nil (by kernel_rfl) ⟨rfl, rfl, ?_⟩
      obtain rfl := si H
      refine T.sub (sub_to (st' := ⟨[(6, .v (.bool false))], [], 8, []⟩) [] (by decide) rfl rfl (⟨⟨_, rfl, .one .v⟩, trivial⟩) (trivial)) ?_
      refine T.ret ?_
      exact RetOk.same [.v (.bool false)] ⟨rfl, trivial⟩ rfl rfl rfl
  · replace H := cf H g18
    refine RunD.xn rfl rfl rfl (bo g18) rfl rfl ?_
    refine RunD.xn rfl rfl rfl (bo g18) rfl rfl ?_
    refine RunD.xn rfl rfl rfl (bo g18) rfl rfl ?_
    refine RunD.ot0 (x := .v (.bool false)) rfl rfl rfl rfl (.pickF (bo g18) rfl) rfl ?_
    refine RunD.ot0 (x := .v (.bool false)) rfl rfl rfl rfl (.moveX rfl) rfl ?_
    refine RunD.xn rfl rfl rfl rfl rfl rfl ?_
    refine RunD.xn rfl rfl rfl rfl rfl rfl ?_
    refine RunD.xn rfl rfl rfl rfl rfl rfl ?_
    refine RunD.ot0 (x := .v (.bool false)) rfl rfl rfl rfl (.pickF rfl rfl) rfl ?_
    refine RunD.ot0 (x := .v (.bool false)) rfl rfl rfl rfl (.moveX rfl) rfl ?_
    refine RunD.xn rfl rfl rfl rfl rfl rfl ?_
    refine RunD.xn rfl rfl rfl rfl rfl rfl ?_
    refine RunD.xn rfl rfl rfl rfl rfl rfl ?_
    refine RunD.xn rfl rfl rfl rfl rfl rfl ?_
    refine RunD.xn rfl rfl rfl rfl rfl rfl ?_
    refine RunD.xn rfl rfl rfl rfl rfl rfl ?_
    refine RunD.xn rfl rfl rfl rfl rfl rfl ?_
    refine RunD.xn rfl rfl rfl rfl rfl rfl ?_
    refine RunD.xn rfl rfl rfl rfl rfl rfl ?_
    refine RunD.xn rfl rfl rfl rfl rfl rfl ?_
    refine RunD.xn rfl rfl rfl rfl rfl rfl ?_
    refine RunD.xn rfl rfl rfl rfl rfl rfl ?_
    refine RunD.xn rfl rfl rfl rfl rfl rfl ?_
    refine RunD.xn rfl rfl rfl rfl rfl rfl ?_
    refine RunD.xn rfl rfl rfl rfl rfl rfl ?_
    refine RunD.ot0 (x := .v (.bool false)) rfl rfl rfl rfl (.pickF rfl rfl) rfl ?_
    refine RunD.ot0 (x := .v (.bool false)) rfl rfl rfl rfl (.assignX rfl) rfl ?_
    refine RunD.nil (by kernel_rfl) ⟨rfl, rfl, ?_⟩
    obtain rfl := si H
    refine T.sub (sub_to (st' := ⟨[(6, .v (.bool false))], [], 8, []⟩) [] (by decide) rfl rfl (⟨⟨_, rfl, .one .v⟩, trivial⟩) (trivial)) ?_
    refine T.ret ?_
    exact RetOk.same [.v (.bool false)] ⟨rfl, trivial⟩ rfl rfl rfl
set_option maxHeartbeats 4000000 in
theorem ref6_Hall_Apart_pc (al : Bool) (k : Nat) (a0 : Ref6Hall) (a1 : Party) (a2 : Int) (a3 : Party) (a4 : Int) (o : Bool) (H : ref6_Hall_Apart k a0 a1 a2 a3 a4 = some o) : PC Try.prog al 113 [.rptr [.lst (List.map eSeat a0.V.Seats), .v (.int .i64 a0.V.Gap), .v (.int .i64 a0.V.Radius), .lst (List.map eI a0.V.Kills), .lst (List.map ePole a0.V.Poles), .lst (List.map eB a0.U)], .agg [.v (.int .i64 a1.Size), .v (.int .i64 a1.Wheels)], .v (.int .i64 a2), .agg [.v (.int .i64 a3.Size), .v (.int .i64 a3.Wheels)], .v (.int .i64 a4)] (.v (.bool o)) := by
  unfold ref6_Hall_Apart at H
  refine PC.of_T Try.func113 rfl rfl (n := 55) rfl rfl (.inr rfl) ?_
  intro base B w0
  refine T.st (st' := ⟨[(0, .rptr [.lst (List.map eSeat a0.V.Seats), .v (.int .i64 a0.V.Gap), .v (.int .i64 a0.V.Radius), .lst (List.map eI a0.V.Kills), .lst (List.map ePole a0.V.Poles), .lst (List.map eB a0.U)]), (1, .agg [.v (.int .i64 a1.Size), .v (.int .i64 a1.Wheels)]), (2, .v (.int .i64 a2)), (3, .agg [.v (.int .i64 a3.Size), .v (.int .i64 a3.Wheels)]), (4, .v (.int .i64 a4))], [], 0, []⟩) rfl ?_
  refine T.seq ?_
  refine T.region ?_
  refine RunT.ot1 (x := .ptr 0 0) (p0 := (0, some (.box [.v (.int .i64 a1.Size), .v (.int .i64 a1.Wheels)]))) (n' := 8) rfl rfl rfl rfl (.boxX rfl rfl rfl) rfl ?_
  refine RunT.ot1 (x := .ptr 8 0) (p0 := (8, some (.box [.v (.int .i64 a3.Size), .v (.int .i64 a3.Wheels)]))) (n' := 16) rfl rfl rfl rfl (.boxX rfl rfl rfl) rfl ?_
  refine RunT.ot0 (x := .v (.bool false)) rfl rfl rfl rfl (.assignX rfl) ?_
  refine RunT.nil ?_
  refine T.seq ?_
  obtain ⟨o6, E7, HO8⟩ := bs H
  refine T.cut (⟨[(0, .rptr [.lst (List.map eSeat a0.V.Seats), .v (.int .i64 a0.V.Gap), .v (.int .i64 a0.V.Radius), .lst (List.map eI a0.V.Kills), .lst (List.map ePole a0.V.Poles), .lst (List.map eB a0.U)]), (2, .v (.int .i64 a2)), (4, .v (.int .i64 a4)), (6, .ptr 0 0), (8, .ptr 1 0), (24, .v (.bool o6))], [(0, some (.box [.v (.int .i64 a1.Size), .v (.int .i64 a1.Wheels)])), (1, some (.box [.v (.int .i64 a3.Size), .v (.int .i64 a3.Wheels)]))], 8, []⟩) ?_ ?_
  · have H := E7
    refine T.sub (sub_pick [0, 2, 4, 6, 8] [0, 8] (st' := ⟨[(0, .rptr [.lst (List.map eSeat a0.V.Seats), .v (.int .i64 a0.V.Gap), .v (.int .i64 a0.V.Radius), .lst (List.map eI a0.V.Kills), .lst (List.map ePole a0.V.Poles), .lst (List.map eB a0.U)]), (2, .v (.int .i64 a2)), (4, .v (.int .i64 a4)), (6, .ptr 0 0), (8, .ptr 8 0)], [(0, some (.box [.v (.int .i64 a1.Size), .v (.int .i64 a1.Wheels)])), (8, some (.box [.v (.int .i64 a3.Size), .v (.int .i64 a3.Wheels)]))], 16, []⟩) rfl rfl rfl rfl rfl) ?_
    refine T.region ?_
    refine RunT.ot0 (x := .rptr [.lst (List.map eSeat a0.V.Seats), .v (.int .i64 a0.V.Gap), .v (.int .i64 a0.V.Radius), .lst (List.map eI a0.V.Kills), .lst (List.map ePole a0.V.Poles), .lst (List.map eB a0.U)]) rfl rfl rfl rfl (.moveX rfl) ?_
    refine RunT.ot0 (x := .agg [.v (.int .i64 a1.Size), .v (.int .i64 a1.Wheels)]) rfl rfl rfl rfl (.loadP ty66 rfl rfl rfl) ?_
    refine RunT.ot0 (x := .v (.int .i64 a2)) rfl rfl rfl rfl (.moveX rfl) ?_
    obtain ⟨r9, h10, H⟩ := bs H
    refine RunT.ot0 (x := .v (.bool r9)) rfl rfl rfl rfl (.callp (ref6_Hall_May_pc false k a0 a1 a2 r9 h10) rfl ⟨(.one .rptr), (.agg' ⟨.v, .v, trivial⟩), (.one .v), trivial⟩ rfl rfl rfl) ?_
    refine RunT.ot0 (x := .v (.bool (!r9))) rfl rfl rfl rfl (.un rfl (fun w => u_not w) rfl) ?_
    refine RunT.ot0 (x := .v (.bool (!r9))) rfl rfl rfl rfl (.moveX rfl) ?_
    refine RunT.cases (t := 18) (c := !r9) rfl (fun g11 => ?_) (fun g11 => ?_)
    · replace H := ct H g11
      refine RunT.xn rfl rfl rfl (bo g11) rfl rfl ?_
      refine RunT.xn rfl rfl rfl (bo g11) rfl rfl ?_
      refine RunT.xn rfl rfl rfl (bo g11) rfl rfl ?_
      refine RunT.xn rfl rfl rfl (bo g11) rfl rfl ?_
      refine RunT.xn rfl rfl rfl (bo g11) rfl rfl ?_
      refine RunT.ot0 (x := .v (.bool true)) rfl rfl rfl rfl (.pickT (bo g11) rfl) ?_
      refine RunT.nil ?_
      obtain rfl := si H
      exact (sub_to [some 0, some 8] (by decide) rfl rfl (⟨⟨_, rfl, .one .rptr⟩, ⟨⟨_, rfl, .one .v⟩, ⟨⟨_, rfl, .one .v⟩, ⟨⟨_, rfl, .one (.ptr rfl)⟩, ⟨⟨_, rfl, .one (.ptr rfl)⟩, ⟨⟨_, rfl, .one .v⟩, trivial⟩⟩⟩⟩⟩⟩) (⟨⟨rfl, .inl ⟨_, _, rfl, rfl, .box ⟨.v, .v, trivial⟩⟩⟩, ⟨⟨rfl, .inl ⟨_, _, rfl, rfl, .box ⟨.v, .v, trivial⟩⟩⟩, trivial⟩⟩))
    · replace H := cf H g11
      refine RunT.gt0 (x := .rptr [.lst (List.map eSeat a0.V.Seats), .v (.int .i64 a0.V.Gap), .v (.int .i64 a0.V.Radius), .lst (List.map eI a0.V.Kills), .lst (List.map ePole a0.V.Poles), .lst (List.map eB a0.U)]) rfl rfl rfl (bo g11) rfl rfl (.moveX rfl) ?_
      refine RunT.gt0 (x := .agg [.v (.int .i64 a3.Size), .v (.int .i64 a3.Wheels)]) rfl rfl rfl (bo g11) rfl rfl (.loadP ty66 rfl rfl rfl) ?_
      refine RunT.gt0 (x := .v (.int .i64 a4)) rfl rfl rfl (bo g11) rfl rfl (.moveX rfl) ?_
      obtain ⟨r12, h13, H⟩ := bs H
      refine RunT.gt0 (x := .v (.bool r12)) rfl rfl rfl (bo g11) rfl rfl (.callp (ref6_Hall_May_pc false k a0 a3 a4 r12 h13) rfl ⟨(.one .rptr), (.agg' ⟨.v, .v, trivial⟩), (.one .v), trivial⟩ rfl rfl rfl) ?_
      refine RunT.gt0 (x := .v (.bool (!r12))) rfl rfl rfl (bo g11) rfl rfl (.un rfl (fun w => u_not w) rfl) ?_
      refine RunT.ot0 (x := .v (.bool (!r12))) rfl rfl rfl rfl (.pickF (bo g11) rfl) ?_
      refine RunT.nil ?_
      obtain rfl := si H
      exact (sub_to [some 0, some 8] (by decide) rfl rfl (⟨⟨_, rfl, .one .rptr⟩, ⟨⟨_, rfl, .one .v⟩, ⟨⟨_, rfl, .one .v⟩, ⟨⟨_, rfl, .one (.ptr rfl)⟩, ⟨⟨_, rfl, .one (.ptr rfl)⟩, ⟨⟨_, rfl, .one .v⟩, trivial⟩⟩⟩⟩⟩⟩) (⟨⟨rfl, .inl ⟨_, _, rfl, rfl, .box ⟨.v, .v, trivial⟩⟩⟩, ⟨⟨rfl, .inl ⟨_, _, rfl, rfl, .box ⟨.v, .v, trivial⟩⟩⟩, trivial⟩⟩))
  · have H := HO8
    refine T.cond2 (t := o6) rfl (fun c14 => ?_) (fun c14 => ?_)
    · replace H := ct H c14
      refine T.seq ?_
      refine T.region ?_
      refine RunT.ot0 (x := .v (.bool false)) rfl rfl rfl rfl (.assignX rfl) ?_
      refine RunT.nil ?_
      obtain rfl := si H
      refine T.sub (sub_to (st' := ⟨[(10, .v (.bool false))], [], 8, []⟩) [] (by decide) rfl rfl (⟨⟨_, rfl, .one .v⟩, trivial⟩) (trivial)) ?_
      refine T.ret ?_
      exact RetOk.same [.v (.bool false)] ⟨rfl, trivial⟩ rfl rfl rfl
    · replace H := cf H c14
      refine T.skip ?_
      refine T.seq ?_
      refine T.seq ?_
      refine T.region ?_
      refine RunT.ot0 (x := .v (.int .i64 a2)) rfl rfl rfl rfl (.moveX rfl) ?_
      refine RunT.ot0 (x := .v (.int .i64 a2)) rfl rfl rfl rfl (.assignX rfl) ?_
      refine RunT.nil ?_
      obtain ⟨o60, E61, HO62⟩ := bs H
      refine T.cutPE (fun v63 => o60 = .go v63) (fun v63 => ⟨[], [], 8, []⟩) ?_ ?_
      · have H := E61
        refine T.block ?_
        refine T.loopS (fun n s => ∃ (v64 : Int), ref6_Hall_Apart_l2 k a0 a1 a2 a3 a4 n v64 = some o60 ∧ s = ⟨[(0, .rptr [.lst (List.map eSeat a0.V.Seats), .v (.int .i64 a0.V.Gap), .v (.int .i64 a0.V.Radius), .lst (List.map eI a0.V.Kills), .lst (List.map ePole a0.V.Poles), .lst (List.map eB a0.U)]), (2, .v (.int .i64 a2)), (4, .v (.int .i64 a4)), (6, .ptr 0 0), (8, .ptr 1 0), (11, .v (.int .i64 v64))], [(0, some (.box [.v (.int .i64 a1.Size), .v (.int .i64 a1.Wheels)])), (1, some (.box [.v (.int .i64 a3.Size), .v (.int .i64 a3.Wheels)]))], 8, []⟩) k ⟨_, ⟨a2, H, rfl⟩, sub_to [some 0, some 1] (by decide) rfl rfl (⟨⟨_, rfl, .one .rptr⟩, ⟨⟨_, rfl, .one .v⟩, ⟨⟨_, rfl, .one .v⟩, ⟨⟨_, rfl, .one (.ptr rfl)⟩, ⟨⟨_, rfl, .one (.ptr rfl)⟩, ⟨⟨_, rfl, .one .v⟩, trivial⟩⟩⟩⟩⟩⟩) (⟨⟨rfl, .inl ⟨_, _, rfl, rfl, .box ⟨.v, .v, trivial⟩⟩⟩, ⟨⟨rfl, .inl ⟨_, _, rfl, rfl, .box ⟨.v, .v, trivial⟩⟩⟩, trivial⟩⟩)⟩ ?_
        rintro n s ⟨v64, H, rfl⟩
        rcases n with _ | n
        · cases (show none = some _ from H)
        rw [ref6_Hall_Apart_l2] at H
        refine T.seq ?_
        refine T.seq ?_
        refine T.region ?_
        refine RunT.ot0 (x := .v (.int .i64 v64)) rfl rfl rfl rfl (.moveX rfl) ?_
        refine RunT.ot0 (x := .v (.int .i64 a2)) rfl rfl rfl rfl (.moveX rfl) ?_
        refine RunT.ot0 (x := .ptr 0 0) rfl rfl rfl rfl (.fieldPX fl66_0 rfl rfl) ?_
        refine RunT.ot0 (x := .v (.int .i64 a1.Size)) rfl rfl rfl rfl (.loadP ty3 rfl rfl rfl) ?_
        refine RunT.ot0 (x := .v (.int .i64 (wr (a2 + a1.Size)))) rfl rfl rfl rfl (.bin rfl rfl (fun w => b_addw w) rfl) ?_
        refine RunT.ot0 (x := .v (.bool (decide (v64 < (wr (a2 + a1.Size)))))) rfl rfl rfl rfl (.bin rfl rfl (fun w => b_lss w) rfl) ?_
        refine RunT.nil ?_
        refine T.cond2 (t := decide (v64 < (wr (a2 + a1.Size)))) rfl (fun c65 => ?_) (fun c65 => ?_)
        · replace H := ct H c65
          refine T.skip ?_
          refine T.seq ?_
          refine T.block ?_
          refine T.seq ?_
          refine T.region ?_
          refine RunT.ot0 (x := .v (.int .i64 a4)) rfl rfl rfl rfl (.moveX rfl) ?_
          refine RunT.ot0 (x := .v (.int .i64 a4)) rfl rfl rfl rfl (.assignX rfl) ?_
          refine RunT.nil ?_
          obtain ⟨o77, E78, HO79⟩ := bs H
          refine T.cutPE (fun v80 => o77 = .go v80) (fun v80 => ⟨[(0, .rptr [.lst (List.map eSeat a0.V.Seats), .v (.int .i64 a0.V.Gap), .v (.int .i64 a0.V.Radius), .lst (List.map eI a0.V.Kills), .lst (List.map ePole a0.V.Poles), .lst (List.map eB a0.U)]), (2, .v (.int .i64 a2)), (4, .v (.int .i64 a4)), (6, .ptr 0 0), (8, .ptr 1 0), (11, .v (.int .i64 v64))], [(0, some (.box [.v (.int .i64 a1.Size), .v (.int .i64 a1.Wheels)])), (1, some (.box [.v (.int .i64 a3.Size), .v (.int .i64 a3.Wheels)]))], 8, []⟩) ?_ ?_
          · have H := E78
            refine T.block ?_
            refine T.loopS (fun n s => ∃ (v81 : Int), ref6_Hall_Apart_l3 k a0 a3 a4 v64 n v81 = some o77 ∧ s = ⟨[(0, .rptr [.lst (List.map eSeat a0.V.Seats), .v (.int .i64 a0.V.Gap), .v (.int .i64 a0.V.Radius), .lst (List.map eI a0.V.Kills), .lst (List.map ePole a0.V.Poles), .lst (List.map eB a0.U)]), (2, .v (.int .i64 a2)), (4, .v (.int .i64 a4)), (6, .ptr 0 0), (8, .ptr 1 0), (11, .v (.int .i64 v64)), (12, .v (.int .i64 v81))], [(0, some (.box [.v (.int .i64 a1.Size), .v (.int .i64 a1.Wheels)])), (1, some (.box [.v (.int .i64 a3.Size), .v (.int .i64 a3.Wheels)]))], 8, []⟩) k ⟨_, ⟨a4, H, rfl⟩, sub_to [some 0, some 1] (by decide) rfl rfl (⟨⟨_, rfl, .one .rptr⟩, ⟨⟨_, rfl, .one .v⟩, ⟨⟨_, rfl, .one .v⟩, ⟨⟨_, rfl, .one (.ptr rfl)⟩, ⟨⟨_, rfl, .one (.ptr rfl)⟩, ⟨⟨_, rfl, .one .v⟩, ⟨⟨_, rfl, .one .v⟩, trivial⟩⟩⟩⟩⟩⟩⟩) (⟨⟨rfl, .inl ⟨_, _, rfl, rfl, .box ⟨.v, .v, trivial⟩⟩⟩, ⟨⟨rfl, .inl ⟨_, _, rfl, rfl, .box ⟨.v, .v, trivial⟩⟩⟩, trivial⟩⟩)⟩ ?_
            rintro n s ⟨v81, H, rfl⟩
            rcases n with _ | n
            · cases (show none = some _ from H)
            rw [ref6_Hall_Apart_l3] at H
            refine T.seq ?_
            refine T.seq ?_
            refine T.region ?_
            refine RunT.ot0 (x := .v (.int .i64 v81)) rfl rfl rfl rfl (.moveX rfl) ?_
            refine RunT.ot0 (x := .v (.int .i64 a4)) rfl rfl rfl rfl (.moveX rfl) ?_
            refine RunT.ot0 (x := .ptr 1 0) rfl rfl rfl rfl (.fieldPX fl66_0 rfl rfl) ?_
            refine RunT.ot0 (x := .v (.int .i64 a3.Size)) rfl rfl rfl rfl (.loadP ty3 rfl rfl rfl) ?_
            refine RunT.ot0 (x := .v (.int .i64 (wr (a4 + a3.Size)))) rfl rfl rfl rfl (.bin rfl rfl (fun w => b_addw w) rfl) ?_
            refine RunT.ot0 (x := .v (.bool (decide (v81 < (wr (a4 + a3.Size)))))) rfl rfl rfl rfl (.bin rfl rfl (fun w => b_lss w) rfl) ?_
            refine RunT.nil ?_
            refine T.cond2 (t := decide (v81 < (wr (a4 + a3.Size)))) rfl (fun c82 => ?_) (fun c82 => ?_)
            · replace H := ct H c82
              refine T.skip ?_
              refine T.seq ?_
              refine T.block ?_
              refine T.seq ?_
              refine T.region ?_
              refine RunT.ot0 (x := .v (.int .i64 v64)) rfl rfl rfl rfl (.moveX rfl) ?_
              refine RunT.ot0 (x := .v (.int .i64 v81)) rfl rfl rfl rfl (.moveX rfl) ?_
              refine RunT.ot0 (x := .v (.bool (decide (v64 = v81)))) rfl rfl rfl rfl (.bin rfl rfl (fun w => b_eql w) rfl) ?_
              refine RunT.ot0 (x := .v (.bool (decide (v64 = v81)))) rfl rfl rfl rfl (.moveX rfl) ?_
              refine RunT.cases (t := 46) (c := decide (v64 = v81)) rfl (fun g83 => ?_) (fun g83 => ?_)
              · replace H := ct H g83
                refine RunT.xn rfl rfl rfl (bo g83) rfl rfl ?_
                refine RunT.xn rfl rfl rfl (bo g83) rfl rfl ?_
                refine RunT.xn rfl rfl rfl (bo g83) rfl rfl ?_
                refine RunT.xn rfl rfl rfl (bo g83) rfl rfl ?_
                refine RunT.xn rfl rfl rfl (bo g83) rfl rfl ?_
                refine RunT.xn rfl rfl rfl (bo g83) rfl rfl ?_
                refine RunT.xn rfl rfl rfl (bo g83) rfl rfl ?_
                refine RunT.ot0 (x := .v (.bool true)) rfl rfl rfl rfl (.pickT (bo g83) rfl) ?_
                refine RunT.nil ?_
                refine T.condT rfl ?_
                refine T.seq ?_
                refine T.region ?_
                refine RunT.ot0 (x := .v (.bool false)) rfl rfl rfl rfl (.assignX rfl) ?_
                refine RunT.nil ?_
                obtain rfl := si H
                have HX := exr HO79
                obtain rfl := si HX
                have HX := exr HO62
                obtain rfl := si HX
                refine T.sub (sub_to (st' := ⟨[(10, .v (.bool false))], [], 8, []⟩) [] (by decide) rfl rfl (⟨⟨_, rfl, .one .v⟩, trivial⟩) (trivial)) ?_
                refine T.ret ?_
                exact RetOk.same [.v (.bool false)] ⟨rfl, trivial⟩ rfl rfl rfl
              · replace H := cf H g83
                refine RunT.gt0 (x := .rptr [.lst (List.map eSeat a0.V.Seats), .v (.int .i64 a0.V.Gap), .v (.int .i64 a0.V.Radius), .lst (List.map eI a0.V.Kills), .lst (List.map ePole a0.V.Poles), .lst (List.map eB a0.U)]) rfl rfl rfl (bo g83) rfl rfl (.moveX rfl) ?_
                refine RunT.gt0 (x := .rptr [.lst (List.map eSeat a0.V.Seats), .v (.int .i64 a0.V.Gap), .v (.int .i64 a0.V.Radius), .lst (List.map eI a0.V.Kills), .lst (List.map ePole a0.V.Poles), .lst (List.map eB a0.U)]) rfl rfl rfl (bo g83) rfl rfl (.nilR rfl) ?_
                refine RunT.gt0 (x := .rptr [.lst (List.map eSeat a0.V.Seats), .v (.int .i64 a0.V.Gap), .v (.int .i64 a0.V.Radius), .lst (List.map eI a0.V.Kills), .lst (List.map ePole a0.V.Poles), .lst (List.map eB a0.U)]) rfl rfl rfl (bo g83) rfl rfl (.fieldRX fl148_0 rfl rfl) ?_
                refine RunT.gt0 (x := .agg [.lst (List.map eSeat a0.V.Seats), .v (.int .i64 a0.V.Gap), .v (.int .i64 a0.V.Radius), .lst (List.map eI a0.V.Kills), .lst (List.map ePole a0.V.Poles)]) rfl rfl rfl (bo g83) rfl rfl (.loadR ty26 rfl rfl) ?_
                refine RunT.gt0 (x := .v (.int .i64 v64)) rfl rfl rfl (bo g83) rfl rfl (.moveX rfl) ?_
                refine RunT.gt0 (x := .v (.int .i64 v81)) rfl rfl rfl (bo g83) rfl rfl (.moveX rfl) ?_
                obtain ⟨r84, h85, H⟩ := bs H
                refine RunT.gt0 (x := .v (.bool r84)) rfl rfl rfl (bo g83) rfl rfl (.callp (ref6_clash_pc false k a0.V v64 v81 r84 h85) rfl ⟨(.agg' ⟨.lst, .v, .v, .lst, .lst, trivial⟩), (.one .v), (.one .v), trivial⟩ rfl rfl rfl) ?_
                refine RunT.ot0 (x := .v (.bool r84)) rfl rfl rfl rfl (.pickF (bo g83) rfl) ?_
                refine RunT.nil ?_
                refine T.cond2 (t := r84) rfl (fun c86 => ?_) (fun c86 => ?_)
                · replace H := ct H c86
                  refine T.seq ?_
                  refine T.sub (sub_pick [] [] (st' := ⟨[], [], 8, []⟩) rfl rfl rfl rfl rfl) ?_
                  refine T.region ?_
                  refine RunT.ot0 (x := .v (.bool false)) rfl rfl rfl rfl (.assignX rfl) ?_
                  refine RunT.nil ?_
                  obtain rfl := si H
                  have HX := exr HO79
                  obtain rfl := si HX
                  have HX := exr HO62
                  obtain rfl := si HX
                  refine T.sub (sub_to (st' := ⟨[(10, .v (.bool false))], [], 8, []⟩) [] (by decide) rfl rfl (⟨⟨_, rfl, .one .v⟩, trivial⟩) (trivial)) ?_
                  refine T.ret ?_
                  exact RetOk.same [.v (.bool false)] ⟨rfl, trivial⟩ rfl rfl rfl
                · replace H := cf H c86
                  refine T.skip ?_
                  refine T.region ?_
                  refine RunT.ot0 (x := .v (.int .i64 v81)) rfl rfl rfl rfl (.moveX rfl) ?_
                  refine RunT.ot0 (x := .v (.int .i64 (wr (v81 + 1)))) rfl rfl rfl rfl (.bin rfl rfl (fun w => b_addw w) rfl) ?_
                  refine RunT.ot0 (x := .v (.int .i64 (wr (v81 + 1)))) rfl rfl rfl rfl (.assignX rfl) ?_
                  refine RunT.nil ?_
                  exact ⟨n, Nat.lt_succ_self n, _, ⟨wr (v81 + 1), H, rfl⟩, (sub_to [some 0, some 1] (by decide) rfl rfl (⟨⟨_, rfl, .one .rptr⟩, ⟨⟨_, rfl, .one .v⟩, ⟨⟨_, rfl, .one .v⟩, ⟨⟨_, rfl, .one (.ptr rfl)⟩, ⟨⟨_, rfl, .one (.ptr rfl)⟩, ⟨⟨_, rfl, .one .v⟩, ⟨⟨_, rfl, .one .v⟩, trivial⟩⟩⟩⟩⟩⟩⟩) (⟨⟨rfl, .inl ⟨_, _, rfl, rfl, .box ⟨.v, .v, trivial⟩⟩⟩, ⟨⟨rfl, .inl ⟨_, _, rfl, rfl, .box ⟨.v, .v, trivial⟩⟩⟩, trivial⟩⟩))⟩
            · replace H := cf H c82
              refine T.exit ?_
              obtain rfl := si H
              exact ⟨_, rfl, (sub_to [some 0, some 1] (by decide) rfl rfl (⟨⟨_, rfl, .one .rptr⟩, ⟨⟨_, rfl, .one .v⟩, ⟨⟨_, rfl, .one .v⟩, ⟨⟨_, rfl, .one (.ptr rfl)⟩, ⟨⟨_, rfl, .one (.ptr rfl)⟩, ⟨⟨_, rfl, .one .v⟩, trivial⟩⟩⟩⟩⟩⟩) (⟨⟨rfl, .inl ⟨_, _, rfl, rfl, .box ⟨.v, .v, trivial⟩⟩⟩, ⟨⟨rfl, .inl ⟨_, _, rfl, rfl, .box ⟨.v, .v, trivial⟩⟩⟩, trivial⟩⟩))⟩
          · intro v80 s hR hS
            subst hR
            have H := exg HO79
            refine T.sub hS ?_
            refine T.region ?_
            refine RunT.ot0 (x := .v (.int .i64 v64)) rfl rfl rfl rfl (.moveX rfl) ?_
            refine RunT.ot0 (x := .v (.int .i64 (wr (v64 + 1)))) rfl rfl rfl rfl (.bin rfl rfl (fun w => b_addw w) rfl) ?_
            refine RunT.ot0 (x := .v (.int .i64 (wr (v64 + 1)))) rfl rfl rfl rfl (.assignX rfl) ?_
            refine RunT.nil ?_
            exact ⟨n, Nat.lt_succ_self n, _, ⟨wr (v64 + 1), H, rfl⟩, (sub_to [some 0, some 1] (by decide) rfl rfl (⟨⟨_, rfl, .one .rptr⟩, ⟨⟨_, rfl, .one .v⟩, ⟨⟨_, rfl, .one .v⟩, ⟨⟨_, rfl, .one (.ptr rfl)⟩, ⟨⟨_, rfl, .one (.ptr rfl)⟩, ⟨⟨_, rfl, .one .v⟩, trivial⟩⟩⟩⟩⟩⟩) (⟨⟨rfl, .inl ⟨_, _, rfl, rfl, .box ⟨.v, .v, trivial⟩⟩⟩, ⟨⟨rfl, .inl ⟨_, _, rfl, rfl, .box ⟨.v, .v, trivial⟩⟩⟩, trivial⟩⟩))⟩
        · replace H := cf H c65
          refine T.exit ?_
          obtain rfl := si H
          exact ⟨_, rfl, (sub_to [] (by decide) rfl rfl (trivial) (trivial))⟩
      · intro v63 s hR hS
        subst hR
        have H := exg HO62
        refine T.sub hS ?_
        refine T.seq ?_
        refine T.region ?_
        refine RunT.ot0 (x := .v (.bool true)) rfl rfl rfl rfl (.assignX rfl) ?_
        refine RunT.nil ?_
        obtain rfl := si H
        refine T.sub (sub_to (st' := ⟨[(10, .v (.bool true))], [], 8, []⟩) [] (by decide) rfl rfl (⟨⟨_, rfl, .one .v⟩, trivial⟩) (trivial)) ?_
        refine T.ret ?_
        exact RetOk.same [.v (.bool true)] ⟨rfl, trivial⟩ rfl rfl rfl
set_option maxHeartbeats 4000000 in
theorem ref6_Apart_pc (al : Bool) (k : Nat) (a0 : Venue) (a1 : Party) (a2 : Int) (a3 : Party) (a4 : Int) (o : Bool) (H : ref6_Apart k a0 a1 a2 a3 a4 = some o) : PC Try.prog al 64 [.agg [.lst (List.map eSeat a0.Seats), .v (.int .i64 a0.Gap), .v (.int .i64 a0.Radius), .lst (List.map eI a0.Kills), .lst (List.map ePole a0.Poles)], .agg [.v (.int .i64 a1.Size), .v (.int .i64 a1.Wheels)], .v (.int .i64 a2), .agg [.v (.int .i64 a3.Size), .v (.int .i64 a3.Wheels)], .v (.int .i64 a4)] (.v (.bool o)) := by
  unfold ref6_Apart at H
  refine PC.of_T Try.func64 rfl rfl (n := 24) rfl rfl (.inr rfl) ?_
  intro base B w0
  refine T.st (st' := ⟨[(0, .agg [.lst (List.map eSeat a0.Seats), .v (.int .i64 a0.Gap), .v (.int .i64 a0.Radius), .lst (List.map eI a0.Kills), .lst (List.map ePole a0.Poles)]), (1, .agg [.v (.int .i64 a1.Size), .v (.int .i64 a1.Wheels)]), (2, .v (.int .i64 a2)), (3, .agg [.v (.int .i64 a3.Size), .v (.int .i64 a3.Wheels)]), (4, .v (.int .i64 a4))], [], 0, []⟩) rfl ?_
  refine T.seq ?_
  refine T.region ?_
  refine RunT.ot1 (x := .ptr 0 0) (p0 := (0, some (.box [.lst (List.map eSeat a0.Seats), .v (.int .i64 a0.Gap), .v (.int .i64 a0.Radius), .lst (List.map eI a0.Kills), .lst (List.map ePole a0.Poles)]))) (n' := 8) rfl rfl rfl rfl (.boxX rfl rfl rfl) rfl ?_
  refine RunT.ot1 (x := .ptr 8 0) (p0 := (8, some (.box [.v (.int .i64 a1.Size), .v (.int .i64 a1.Wheels)]))) (n' := 16) rfl rfl rfl rfl (.boxX rfl rfl rfl) rfl ?_
  refine RunT.ot1 (x := .ptr 16 0) (p0 := (16, some (.box [.v (.int .i64 a3.Size), .v (.int .i64 a3.Wheels)]))) (n' := 24) rfl rfl rfl rfl (.boxX rfl rfl rfl) rfl ?_
  refine RunT.ot0 (x := .v (.bool false)) rfl rfl rfl rfl (.assignX rfl) ?_
  refine RunT.nil ?_
  refine T.seq ?_
  refine T.region ?_
  refine RunT.ot0 (x := .agg [.lst (List.map eSeat a0.Seats), .v (.int .i64 a0.Gap), .v (.int .i64 a0.Radius), .lst (List.map eI a0.Kills), .lst (List.map ePole a0.Poles)]) rfl rfl rfl rfl (.loadP ty26 rfl rfl rfl) ?_
  obtain ⟨r1, h2, H⟩ := bs H
  rcases r1 with _ | r3
  · have H := optn H
    refine RunT.ot0 (x := .v (.pointer none)) rfl rfl rfl rfl (.callp (ref6_NewHall_pc k a0 none h2) rfl ⟨(.same rfl), trivial⟩ rfl rfl rfl) ?_
    refine RunT.ot0 (x := .v (.pointer none)) rfl rfl rfl rfl (.assignX rfl) ?_
    refine RunT.nil ?_
    refine T.seq ?_
    refine T.region ?_
    refine RunT.ot0 (x := .v (.pointer none)) rfl rfl rfl rfl (.moveX rfl) ?_
    refine RunT.ot0 (x := .v (.bool false)) rfl rfl rfl rfl (.bin rfl rfl (fun w => neNN Try.underlying119 w) rfl) ?_
    refine RunT.ot0 (x := .v (.bool false)) rfl rfl rfl rfl (.moveX rfl) ?_
    refine RunT.xn rfl rfl rfl rfl rfl rfl ?_
    refine RunT.xn rfl rfl rfl rfl rfl rfl ?_
    refine RunT.xn rfl rfl rfl rfl rfl rfl ?_
    refine RunT.xn rfl rfl rfl rfl rfl rfl ?_
    refine RunT.xn rfl rfl rfl rfl rfl rfl ?_
    refine RunT.xn rfl rfl rfl rfl rfl rfl ?_
    refine RunT.ot0 (x := .v (.bool false)) rfl rfl rfl rfl (.pickF rfl rfl) ?_
    refine RunT.ot0 (x := .v (.bool false)) rfl rfl rfl rfl (.assignX rfl) ?_
    refine RunT.nil ?_
    obtain rfl := si H
    refine T.sub (sub_to (st' := ⟨[(10, .v (.bool false))], [], 8, []⟩) [] (by decide) rfl rfl (⟨⟨_, rfl, .one .v⟩, trivial⟩) (trivial)) ?_
    refine T.ret ?_
    exact RetOk.same [.v (.bool false)] ⟨rfl, trivial⟩ rfl rfl rfl
  · have H := opts H
    refine RunT.ot0 (x := .rptr [.lst (List.map eSeat r3.V.Seats), .v (.int .i64 r3.V.Gap), .v (.int .i64 r3.V.Radius), .lst (List.map eI r3.V.Kills), .lst (List.map ePole r3.V.Poles), .lst (List.map eB r3.U)]) rfl rfl rfl rfl (.callp (ref6_NewHall_pc k a0 (some r3) h2) rfl ⟨(.same rfl), trivial⟩ rfl rfl rfl) ?_
    refine RunT.ot0 (x := .rptr [.lst (List.map eSeat r3.V.Seats), .v (.int .i64 r3.V.Gap), .v (.int .i64 r3.V.Radius), .lst (List.map eI r3.V.Kills), .lst (List.map ePole r3.V.Poles), .lst (List.map eB r3.U)]) rfl rfl rfl rfl (.assignX rfl) ?_
    refine RunT.nil ?_
    refine T.seq ?_
    refine T.region ?_
    refine RunT.ot0 (x := .rptr [.lst (List.map eSeat r3.V.Seats), .v (.int .i64 r3.V.Gap), .v (.int .i64 r3.V.Radius), .lst (List.map eI r3.V.Kills), .lst (List.map ePole r3.V.Poles), .lst (List.map eB r3.U)]) rfl rfl rfl rfl (.moveX rfl) ?_
    refine RunT.ot0 (x := .v (.bool true)) rfl rfl rfl rfl (.nilcmp rfl rfl (fun a w => nePN Try.underlying119 a w)) ?_
    refine RunT.ot0 (x := .v (.bool true)) rfl rfl rfl rfl (.moveX rfl) ?_
    refine RunT.gt0 (x := .rptr [.lst (List.map eSeat r3.V.Seats), .v (.int .i64 r3.V.Gap), .v (.int .i64 r3.V.Radius), .lst (List.map eI r3.V.Kills), .lst (List.map ePole r3.V.Poles), .lst (List.map eB r3.U)]) rfl rfl rfl rfl rfl rfl (.moveX rfl) ?_
    refine RunT.gt0 (x := .agg [.v (.int .i64 a1.Size), .v (.int .i64 a1.Wheels)]) rfl rfl rfl rfl rfl rfl (.loadP ty66 rfl rfl rfl) ?_
    refine RunT.gt0 (x := .v (.int .i64 a2)) rfl rfl rfl rfl rfl rfl (.moveX rfl) ?_
    refine RunT.gt0 (x := .agg [.v (.int .i64 a3.Size), .v (.int .i64 a3.Wheels)]) rfl rfl rfl rfl rfl rfl (.loadP ty66 rfl rfl rfl) ?_
    refine RunT.gt0 (x := .v (.int .i64 a4)) rfl rfl rfl rfl rfl rfl (.moveX rfl) ?_
    obtain ⟨r4, h5, H⟩ := bs H
    refine RunT.gt0 (x := .v (.bool r4)) rfl rfl rfl rfl rfl rfl (.callp (ref6_Hall_Apart_pc false k r3 a1 a2 a3 a4 r4 h5) rfl ⟨(.one .rptr), (.agg' ⟨.v, .v, trivial⟩), (.one .v), (.agg' ⟨.v, .v, trivial⟩), (.one .v), trivial⟩ rfl rfl rfl) ?_
    refine RunT.ot0 (x := .v (.bool r4)) rfl rfl rfl rfl (.pickT rfl rfl) ?_
    refine RunT.ot0 (x := .v (.bool r4)) rfl rfl rfl rfl (.assignX rfl) ?_
    refine RunT.nil ?_
    obtain rfl := si H
    refine T.sub (sub_to (st' := ⟨[(10, .v (.bool r4))], [], 8, []⟩) [] (by decide) rfl rfl (⟨⟨_, rfl, .one .v⟩, trivial⟩) (trivial)) ?_
    refine T.ret ?_
    exact RetOk.same [.v (.bool r4)] ⟨rfl, trivial⟩ rfl rfl rfl
set_option maxHeartbeats 4000000 in
theorem ref6_Hall_All_pc (al : Bool) (k : Nat) (a0 : Ref6Hall) (a1 : Party) (o : (List Int)) (H : ref6_Hall_All k a0 a1 = some o) : PC Try.prog al 114 [.rptr [.lst (List.map eSeat a0.V.Seats), .v (.int .i64 a0.V.Gap), .v (.int .i64 a0.V.Radius), .lst (List.map eI a0.V.Kills), .lst (List.map ePole a0.V.Poles), .lst (List.map eB a0.U)], .agg [.v (.int .i64 a1.Size), .v (.int .i64 a1.Wheels)]] (.frs 1 (List.map eI o)) := by
  unfold ref6_Hall_All at H
  refine PC.of_T Try.func114 rfl rfl (n := 26) rfl rfl (.inr (flat1_frs (sz := 1) fl_I)) ?_
  intro base B w0
  refine T.st (st' := ⟨[(0, .rptr [.lst (List.map eSeat a0.V.Seats), .v (.int .i64 a0.V.Gap), .v (.int .i64 a0.V.Radius), .lst (List.map eI a0.V.Kills), .lst (List.map ePole a0.V.Poles), .lst (List.map eB a0.U)]), (1, .agg [.v (.int .i64 a1.Size), .v (.int .i64 a1.Wheels)])], [], 0, []⟩) rfl ?_
  refine T.seq ?_
  refine T.region ?_
  refine RunT.ot1 (x := .ptr 0 0) (p0 := (0, some (.box [.v (.int .i64 a1.Size), .v (.int .i64 a1.Wheels)]))) (n' := 8) rfl rfl rfl rfl (.boxX rfl rfl rfl) rfl ?_
  refine RunT.ot0 (x := .v (.slice none 0 0)) rfl rfl rfl rfl (.assignX rfl) ?_
  refine RunT.nil ?_
  refine T.seq ?_
  refine T.region ?_
  refine RunT.ot0 (x := .v (.slice none 0 0)) rfl rfl rfl rfl (.assignX rfl) ?_
  refine RunT.nil ?_
  refine T.seq ?_
  refine T.seq ?_
  refine T.region ?_
  refine RunT.ot0 (x := .v (.int .i64 0)) rfl rfl rfl rfl (.assignX rfl) ?_
  refine RunT.nil ?_
  obtain ⟨o13, E14, HO15⟩ := bs H
  refine T.cutE (⟨[(5, .own 0 0 o13.length)], [(0, some (.arr false 1 (List.map eI o13)))], 8, []⟩) ?_ ?_
  · have H := E14
    refine T.block ?_
    refine T.loopS (fun n s => ∃ (v16 : (List Int)) (v17 : Int), ref6_Hall_All_l0 k a0 a1 n v16 v17 = some o13 ∧ s = ⟨[(0, .rptr [.lst (List.map eSeat a0.V.Seats), .v (.int .i64 a0.V.Gap), .v (.int .i64 a0.V.Radius), .lst (List.map eI a0.V.Kills), .lst (List.map ePole a0.V.Poles), .lst (List.map eB a0.U)]), (3, .ptr 0 0), (5, .own 1 0 v16.length), (6, .v (.int .i64 v17))], [(0, some (.box [.v (.int .i64 a1.Size), .v (.int .i64 a1.Wheels)])), (1, some (.arr false 1 (List.map eI v16)))], 8, []⟩) k ⟨_, ⟨[], 0, H, rfl⟩, sub_to [some 0, none] (by decide) rfl rfl (⟨⟨_, rfl, .one .rptr⟩, ⟨⟨_, rfl, .one (.ptr rfl)⟩, ⟨⟨_, rfl, .one .nilO⟩, ⟨⟨_, rfl, .one .v⟩, trivial⟩⟩⟩⟩) (⟨⟨rfl, .inl ⟨_, _, rfl, rfl, .box ⟨.v, .v, trivial⟩⟩⟩, ⟨⟨rfl, .inr ⟨rfl, false, _, rfl, (by decide)⟩⟩, trivial⟩⟩)⟩ ?_
    rintro n s ⟨v16, v17, H, rfl⟩
    rcases n with _ | n
    · cases (show none = some _ from H)
    rw [ref6_Hall_All_l0] at H
    refine T.seq ?_
    refine T.seq ?_
    refine T.region ?_
    refine RunT.ot0 (x := .v (.int .i64 v17)) rfl rfl rfl rfl (.moveX rfl) ?_
    refine RunT.ot0 (x := .rptr [.lst (List.map eSeat a0.V.Seats), .v (.int .i64 a0.V.Gap), .v (.int .i64 a0.V.Radius), .lst (List.map eI a0.V.Kills), .lst (List.map ePole a0.V.Poles), .lst (List.map eB a0.U)]) rfl rfl rfl rfl (.moveX rfl) ?_
    refine RunT.ot0 (x := .rptr [.lst (List.map eSeat a0.V.Seats), .v (.int .i64 a0.V.Gap), .v (.int .i64 a0.V.Radius), .lst (List.map eI a0.V.Kills), .lst (List.map ePole a0.V.Poles), .lst (List.map eB a0.U)]) rfl rfl rfl rfl (.nilR rfl) ?_
    refine RunT.ot0 (x := .rptr [.lst (List.map eSeat a0.V.Seats), .v (.int .i64 a0.V.Gap), .v (.int .i64 a0.V.Radius), .lst (List.map eI a0.V.Kills), .lst (List.map ePole a0.V.Poles), .lst (List.map eB a0.U)]) rfl rfl rfl rfl (.fieldRX fl148_0 rfl rfl) ?_
    refine RunT.ot0 (x := .rptr [.lst (List.map eSeat a0.V.Seats), .v (.int .i64 a0.V.Gap), .v (.int .i64 a0.V.Radius), .lst (List.map eI a0.V.Kills), .lst (List.map ePole a0.V.Poles), .lst (List.map eB a0.U)]) rfl rfl rfl rfl (.fieldRX fl26_0 rfl rfl) ?_
    refine RunT.ot0 (x := .lst (List.map eSeat a0.V.Seats)) rfl rfl rfl rfl (.loadR ty22 rfl rfl) ?_
    refine RunT.ot0 (x := .v (.int .i64 (a0.V.Seats.length : Int))) rfl rfl rfl rfl (.lenLm Try.underlying22 rfl rfl) ?_
    refine RunT.ot0 (x := .v (.bool (decide (v17 < (a0.V.Seats.length : Int))))) rfl rfl rfl rfl (.bin rfl rfl (fun w => b_lss w) rfl) ?_
    refine RunT.nil ?_
    refine T.cond2 (t := decide (v17 < (a0.V.Seats.length : Int))) rfl (fun c18 => ?_) (fun c18 => ?_)
    · replace H := ct H c18
      refine T.skip ?_
      refine T.seq ?_
      refine T.block ?_
      refine T.seq ?_
      refine T.sub (sub_pick [0, 3, 5, 6] [0, 1] (st' := ⟨[(0, .rptr [.lst (List.map eSeat a0.V.Seats), .v (.int .i64 a0.V.Gap), .v (.int .i64 a0.V.Radius), .lst (List.map eI a0.V.Kills), .lst (List.map ePole a0.V.Poles), .lst (List.map eB a0.U)]), (3, .ptr 0 0), (5, .own 1 0 v16.length), (6, .v (.int .i64 v17))], [(0, some (.box [.v (.int .i64 a1.Size), .v (.int .i64 a1.Wheels)])), (1, some (.arr false 1 (List.map eI v16)))], 8, []⟩) rfl rfl rfl rfl rfl) ?_
      refine T.region ?_
      refine RunT.ot0 (x := .rptr [.lst (List.map eSeat a0.V.Seats), .v (.int .i64 a0.V.Gap), .v (.int .i64 a0.V.Radius), .lst (List.map eI a0.V.Kills), .lst (List.map ePole a0.V.Poles), .lst (List.map eB a0.U)]) rfl rfl rfl rfl (.moveX rfl) ?_
      refine RunT.ot0 (x := .agg [.v (.int .i64 a1.Size), .v (.int .i64 a1.Wheels)]) rfl rfl rfl rfl (.loadP ty66 rfl rfl rfl) ?_
      refine RunT.ot0 (x := .v (.int .i64 v17)) rfl rfl rfl rfl (.moveX rfl) ?_
      obtain ⟨r19, h20, H⟩ := bs H
      refine RunT.ot0 (x := .v (.bool r19)) rfl rfl rfl rfl (.callp (ref6_Hall_May_pc false k a0 a1 v17 r19 h20) rfl ⟨(.one .rptr), (.agg' ⟨.v, .v, trivial⟩), (.one .v), trivial⟩ rfl rfl rfl) ?_
      refine RunT.nil ?_
      refine T.cond2 (t := r19) rfl (fun c21 => ?_) (fun c21 => ?_)
      · replace H := ct H c21
        refine T.region ?_
        refine RunT.ot0 (x := .own 1 0 v16.length) rfl rfl rfl rfl (.moveX rfl) ?_
        refine RunT.ot0 (x := .v (.int .i64 v17)) rfl rfl rfl rfl (.moveX rfl) ?_
        refine RunT.ot1 (x := .own 8 0 (([v17]).length)) (p0 := (8, some (.arr false 1 (List.map eI [v17])))) (n' := 16) rfl rfl rfl rfl (.bslicem (d := false) (l := [v17]) (f := eI) sl23 rfl rfl rfl enc_I rfl) rfl ?_
        obtain ⟨h22, H⟩ := gs H
        refine RunT.ot2 (x := .own 16 0 ((v16 ++ [v17]).length)) (p0 := (16, some (.arr false 1 (List.map eI (v16 ++ [v17]))))) (p1 := (1, none)) (n' := 24) rfl rfl rfl rfl (.appOn (d := false) (l := v16) (m := [v17]) (f := eI) rfl sl23 rfl rfl rfl (.ownn Try.underlying23 rfl rfl (fun h => by cases h)) rfl h22) rfl ?_
        refine RunT.ot0 (x := .own 16 0 ((v16 ++ [v17]).length)) rfl rfl rfl rfl (.assignX rfl) ?_
        refine RunT.nil ?_
        refine T.region ?_
        refine RunT.ot0 (x := .v (.int .i64 v17)) rfl rfl rfl rfl (.moveX rfl) ?_
        refine RunT.ot0 (x := .v (.int .i64 (wr (v17 + 1)))) rfl rfl rfl rfl (.bin rfl rfl (fun w => b_addw w) rfl) ?_
        refine RunT.ot0 (x := .v (.int .i64 (wr (v17 + 1)))) rfl rfl rfl rfl (.assignX rfl) ?_
        refine RunT.nil ?_
        exact ⟨n, Nat.lt_succ_self n, _, ⟨v16 ++ [v17], wr (v17 + 1), H, rfl⟩, (sub_to [some 0, some 16] (by decide) rfl rfl (⟨⟨_, rfl, .one .rptr⟩, ⟨⟨_, rfl, .one (.ptr rfl)⟩, ⟨⟨_, rfl, .one (.own rfl)⟩, ⟨⟨_, rfl, .one .v⟩, trivial⟩⟩⟩⟩) (⟨⟨rfl, .inl ⟨_, _, rfl, rfl, .box ⟨.v, .v, trivial⟩⟩⟩, ⟨⟨rfl, .inl ⟨_, _, rfl, rfl, .arr rfl⟩⟩, trivial⟩⟩))⟩
      · replace H := cf H c21
        refine T.skip ?_
        refine T.region ?_
        refine RunT.ot0 (x := .v (.int .i64 v17)) rfl rfl rfl rfl (.moveX rfl) ?_
        refine RunT.ot0 (x := .v (.int .i64 (wr (v17 + 1)))) rfl rfl rfl rfl (.bin rfl rfl (fun w => b_addw w) rfl) ?_
        refine RunT.ot0 (x := .v (.int .i64 (wr (v17 + 1)))) rfl rfl rfl rfl (.assignX rfl) ?_
        refine RunT.nil ?_
        exact ⟨n, Nat.lt_succ_self n, _, ⟨v16, wr (v17 + 1), H, rfl⟩, (sub_to [some 0, some 1] (by decide) rfl rfl (⟨⟨_, rfl, .one .rptr⟩, ⟨⟨_, rfl, .one (.ptr rfl)⟩, ⟨⟨_, rfl, .one (.own rfl)⟩, ⟨⟨_, rfl, .one .v⟩, trivial⟩⟩⟩⟩) (⟨⟨rfl, .inl ⟨_, _, rfl, rfl, .box ⟨.v, .v, trivial⟩⟩⟩, ⟨⟨rfl, .inl ⟨_, _, rfl, rfl, .arr rfl⟩⟩, trivial⟩⟩))⟩
    · replace H := cf H c18
      refine T.exit ?_
      obtain rfl := si H
      exact (sub_to [some 1] (by decide) rfl rfl (⟨⟨_, rfl, .one (.own rfl)⟩, trivial⟩) (⟨⟨rfl, .inl ⟨_, _, rfl, rfl, .arr rfl⟩⟩, trivial⟩))
  · intro s hS
    have H := HO15
    refine T.sub hS ?_
    refine T.seq ?_
    refine T.region ?_
    refine RunT.ot0 (x := .own 0 0 o13.length) rfl rfl rfl rfl (.moveX rfl) ?_
    refine RunT.ot0 (x := .own 0 0 o13.length) rfl rfl rfl rfl (.assignX rfl) ?_
    refine RunT.nil ?_
    obtain rfl := si H
    refine T.sub (sub_to (st' := ⟨[(4, .own 0 0 ((List.map eI o13).length))], [(0, some (.arr false 1 (List.map eI o13)))], 8, []⟩) [some 0] (by decide) rfl rfl (⟨⟨_, rfl, .one (.own' rfl (List.length_map _).symm)⟩, trivial⟩) (⟨⟨rfl, .inl ⟨_, _, rfl, rfl, .arr rfl⟩⟩, trivial⟩)) ?_
    refine T.ret ?_
    exact RetOk.same [.own 0 0 ((List.map eI o13).length)] ⟨rfl, trivial⟩ rfl rfl rfl
set_option maxHeartbeats 4000000 in
theorem ref6_AllPlaces_pc (al : Bool) (k : Nat) (a0 : Venue) (a1 : Party) (o : (List Int)) (H : ref6_AllPlaces k a0 a1 = some o) : PC Try.prog al 65 [.agg [.lst (List.map eSeat a0.Seats), .v (.int .i64 a0.Gap), .v (.int .i64 a0.Radius), .lst (List.map eI a0.Kills), .lst (List.map ePole a0.Poles)], .agg [.v (.int .i64 a1.Size), .v (.int .i64 a1.Wheels)]] (.frs 1 (List.map eI o)) := by
  unfold ref6_AllPlaces at H
  refine PC.of_T Try.func65 rfl rfl (n := 13) rfl rfl (.inr (flat1_frs (sz := 1) fl_I)) ?_
  intro base B w0
  refine T.st (st' := ⟨[(0, .agg [.lst (List.map eSeat a0.Seats), .v (.int .i64 a0.Gap), .v (.int .i64 a0.Radius), .lst (List.map eI a0.Kills), .lst (List.map ePole a0.Poles)]), (1, .agg [.v (.int .i64 a1.Size), .v (.int .i64 a1.Wheels)])], [], 0, []⟩) rfl ?_
  refine T.seq ?_
  refine T.region ?_
  refine RunT.ot1 (x := .ptr 0 0) (p0 := (0, some (.box [.lst (List.map eSeat a0.Seats), .v (.int .i64 a0.Gap), .v (.int .i64 a0.Radius), .lst (List.map eI a0.Kills), .lst (List.map ePole a0.Poles)]))) (n' := 8) rfl rfl rfl rfl (.boxX rfl rfl rfl) rfl ?_
  refine RunT.ot1 (x := .ptr 8 0) (p0 := (8, some (.box [.v (.int .i64 a1.Size), .v (.int .i64 a1.Wheels)]))) (n' := 16) rfl rfl rfl rfl (.boxX rfl rfl rfl) rfl ?_
  refine RunT.ot0 (x := .v (.slice none 0 0)) rfl rfl rfl rfl (.assignX rfl) ?_
  refine RunT.nil ?_
  refine T.seq ?_
  refine T.region ?_
  refine RunT.ot0 (x := .agg [.lst (List.map eSeat a0.Seats), .v (.int .i64 a0.Gap), .v (.int .i64 a0.Radius), .lst (List.map eI a0.Kills), .lst (List.map ePole a0.Poles)]) rfl rfl rfl rfl (.loadP ty26 rfl rfl rfl) ?_
  obtain ⟨r1, h2, H⟩ := bs H
  rcases r1 with _ | r3
  · have H := optn H
    refine RunT.ot0 (x := .v (.pointer none)) rfl rfl rfl rfl (.callp (ref6_NewHall_pc k a0 none h2) rfl ⟨(.same rfl), trivial⟩ rfl rfl rfl) ?_
    refine RunT.ot0 (x := .v (.pointer none)) rfl rfl rfl rfl (.assignX rfl) ?_
    refine RunT.nil ?_
    refine T.seq ?_
    refine T.seq ?_
    refine T.region ?_
    refine RunT.ot0 (x := .v (.pointer none)) rfl rfl rfl rfl (.moveX rfl) ?_
    refine RunT.ot0 (x := .v (.bool true)) rfl rfl rfl rfl (.bin rfl rfl (fun w => eqNN Try.underlying119 w) rfl) ?_
    refine RunT.nil ?_
    refine T.condT rfl ?_
    refine T.seq ?_
    refine T.region ?_
    refine RunT.ot0 (x := .v (.slice none 0 0)) rfl rfl rfl rfl (.assignX rfl) ?_
    refine RunT.nil ?_
    obtain rfl := si H
    refine T.sub (sub_to (st' := ⟨[(4, .own 0 0 0)], [(0, some (.arr false 1 (List.map eI [])))], 8, []⟩) [none] (by decide) rfl rfl (⟨⟨_, rfl, .one .nilO⟩, trivial⟩) (⟨⟨rfl, .inr ⟨rfl, false, _, rfl, (by decide)⟩⟩, trivial⟩)) ?_
    refine T.ret ?_
    exact RetOk.same [.own 0 0 0] ⟨rfl, trivial⟩ rfl rfl rfl
  · have H := opts H
    refine RunT.ot0 (x := .rptr [.lst (List.map eSeat r3.V.Seats), .v (.int .i64 r3.V.Gap), .v (.int .i64 r3.V.Radius), .lst (List.map eI r3.V.Kills), .lst (List.map ePole r3.V.Poles), .lst (List.map eB r3.U)]) rfl rfl rfl rfl (.callp (ref6_NewHall_pc k a0 (some r3) h2) rfl ⟨(.same rfl), trivial⟩ rfl rfl rfl) ?_
    refine RunT.ot0 (x := .rptr [.lst (List.map eSeat r3.V.Seats), .v (.int .i64 r3.V.Gap), .v (.int .i64 r3.V.Radius), .lst (List.map eI r3.V.Kills), .lst (List.map ePole r3.V.Poles), .lst (List.map eB r3.U)]) rfl rfl rfl rfl (.assignX rfl) ?_
    refine RunT.nil ?_
    refine T.seq ?_
    refine T.seq ?_
    refine T.region ?_
    refine RunT.ot0 (x := .rptr [.lst (List.map eSeat r3.V.Seats), .v (.int .i64 r3.V.Gap), .v (.int .i64 r3.V.Radius), .lst (List.map eI r3.V.Kills), .lst (List.map ePole r3.V.Poles), .lst (List.map eB r3.U)]) rfl rfl rfl rfl (.moveX rfl) ?_
    refine RunT.ot0 (x := .v (.bool false)) rfl rfl rfl rfl (.nilcmp rfl rfl (fun a w => eqPN Try.underlying119 a w)) ?_
    refine RunT.nil ?_
    refine T.condF rfl ?_
    refine T.skip ?_
    refine T.seq ?_
    refine T.region ?_
    refine RunT.ot0 (x := .rptr [.lst (List.map eSeat r3.V.Seats), .v (.int .i64 r3.V.Gap), .v (.int .i64 r3.V.Radius), .lst (List.map eI r3.V.Kills), .lst (List.map ePole r3.V.Poles), .lst (List.map eB r3.U)]) rfl rfl rfl rfl (.moveX rfl) ?_
    refine RunT.ot0 (x := .agg [.v (.int .i64 a1.Size), .v (.int .i64 a1.Wheels)]) rfl rfl rfl rfl (.loadP ty66 rfl rfl rfl) ?_
    obtain ⟨r4, h5, H⟩ := bs H
    refine RunT.ot1 (x := .own 16 0 ((List.map eI r4).length)) (p0 := (16, some (.arr false 1 (List.map eI r4)))) (n' := 24) rfl rfl rfl rfl (.callp (ref6_Hall_All_pc false k r3 a1 r4 h5) rfl ⟨(.one .rptr), (.agg' ⟨.v, .v, trivial⟩), trivial⟩ rfl rfl rfl) rfl ?_
    refine RunT.ot0 (x := .own 16 0 ((List.map eI r4).length)) rfl rfl rfl rfl (.assignX rfl) ?_
    refine RunT.nil ?_
    obtain rfl := si H
    refine T.sub (sub_to (st' := ⟨[(4, .own 0 0 ((List.map eI r4).length))], [(0, some (.arr false 1 (List.map eI r4)))], 8, []⟩) [some 16] (by decide) rfl rfl (⟨⟨_, rfl, .one (.own' rfl ((List.length_map _).trans (List.length_map _).symm))⟩, trivial⟩) (⟨⟨rfl, .inl ⟨_, _, rfl, rfl, .arr rfl⟩⟩, trivial⟩)) ?_
    refine T.ret ?_
    exact RetOk.same [.own 0 0 ((List.map eI r4).length)] ⟨rfl, trivial⟩ rfl rfl rfl
set_option maxHeartbeats 4000000 in
theorem law11_PlaceAsks_pc (al : Bool) (k : Nat) (a0 : Venue) (a1 : Party) (a2 : Party) (a3 : Int) (a4 : Int) (o : Bool) (H : law11_PlaceAsks k a0 a1 a2 a3 a4 = some o) : PC Try.prog al 16 [.agg [.lst (List.map eSeat a0.Seats), .v (.int .i64 a0.Gap), .v (.int .i64 a0.Radius), .lst (List.map eI a0.Kills), .lst (List.map ePole a0.Poles)], .agg [.v (.int .i64 a1.Size), .v (.int .i64 a1.Wheels)], .agg [.v (.int .i64 a2.Size), .v (.int .i64 a2.Wheels)], .v (.int .i64 a3), .v (.int .i64 a4)] (.v (.bool o)) := by
  unfold law11_PlaceAsks at H
  refine PC.of_T Try.func16 rfl rfl (n := 121) rfl rfl (.inr rfl) ?_
  intro base B w0
  refine T.st (st' := ⟨[(0, .agg [.lst (List.map eSeat a0.Seats), .v (.int .i64 a0.Gap), .v (.int .i64 a0.Radius), .lst (List.map eI a0.Kills), .lst (List.map ePole a0.Poles)]), (1, .agg [.v (.int .i64 a1.Size), .v (.int .i64 a1.Wheels)]), (2, .agg [.v (.int .i64 a2.Size), .v (.int .i64 a2.Wheels)]), (3, .v (.int .i64 a3)), (4, .v (.int .i64 a4))], [], 0, []⟩) rfl ?_
  refine T.seq ?_
  refine T.region ?_
  refine RunT.ot1 (x := .ptr 0 0) (p0 := (0, some (.box [.lst (List.map eSeat a0.Seats), .v (.int .i64 a0.Gap), .v (.int .i64 a0.Radius), .lst (List.map eI a0.Kills), .lst (List.map ePole a0.Poles)]))) (n' := 8) rfl rfl rfl rfl (.boxX rfl rfl rfl) rfl ?_
  refine RunT.ot1 (x := .ptr 8 0) (p0 := (8, some (.box [.v (.int .i64 a1.Size), .v (.int .i64 a1.Wheels)]))) (n' := 16) rfl rfl rfl rfl (.boxX rfl rfl rfl) rfl ?_
  refine RunT.ot1 (x := .ptr 16 0) (p0 := (16, some (.box [.v (.int .i64 a2.Size), .v (.int .i64 a2.Wheels)]))) (n' := 24) rfl rfl rfl rfl (.boxX rfl rfl rfl) rfl ?_
  refine RunT.ot0 (x := .v (.bool false)) rfl rfl rfl rfl (.assignX rfl) ?_
  refine RunT.nil ?_
  refine T.seq ?_
  refine T.seq ?_
  refine T.region ?_
  refine RunT.ot0 (x := .agg [.lst (List.map eSeat a0.Seats), .v (.int .i64 a0.Gap), .v (.int .i64 a0.Radius), .lst (List.map eI a0.Kills), .lst (List.map ePole a0.Poles)]) rfl rfl rfl rfl (.loadP ty26 rfl rfl rfl) ?_
  obtain ⟨r1, h2, H⟩ := bs H
  refine RunT.ot0 (x := .v (.bool r1)) rfl rfl rfl rfl (.callp (law3_Few_pc false k a0 r1 h2) rfl ⟨(.agg' ⟨.lst, .v, .v, .lst, .lst, trivial⟩), trivial⟩ rfl rfl rfl) ?_
  refine RunT.ot0 (x := .v (.bool (!r1))) rfl rfl rfl rfl (.un rfl (fun w => u_not w) rfl) ?_
  refine RunT.nil ?_
  refine T.cond2 (t := !r1) rfl (fun c3 => ?_) (fun c3 => ?_)
  · replace H := ct H c3
    refine T.seq ?_
    refine T.region ?_
    obtain ⟨r4, h5, H⟩ := bs H
    refine RunT.ot0 (x := .v (.bool r4)) rfl rfl rfl rfl (.callp (law11_told_pc false k  r4 h5) rfl trivial rfl rfl rfl) ?_
    refine RunT.ot0 (x := .v (.bool r4)) rfl rfl rfl rfl (.assignX rfl) ?_
    refine RunT.nil ?_
    obtain rfl := si H
    refine T.sub (sub_to (st' := ⟨[(10, .v (.bool r4))], [], 8, []⟩) [] (by decide) rfl rfl (⟨⟨_, rfl, .one .v⟩, trivial⟩) (trivial)) ?_
    refine T.ret ?_
    exact RetOk.same [.v (.bool r4)] ⟨rfl, trivial⟩ rfl rfl rfl
  · replace H := cf H c3
    refine T.skip ?_
    refine T.seq ?_
    refine T.seq ?_
    refine T.region ?_
    refine RunT.ot0 (x := .v (.int .i64 0)) rfl rfl rfl rfl (.assignX rfl) ?_
    refine RunT.nil ?_
    obtain ⟨o187, E188, HO189⟩ := bs H
    refine T.cutPE (fun v190 => o187 = .go v190) (fun v190 => ⟨[], [], 8, []⟩) ?_ ?_
    · have H := E188
      refine T.block ?_
      refine T.loopS (fun n s => ∃ (v191 : Int) (v192 : Int) (v193 : Int), law11_PlaceAsks_l2 k a0 a1 a2 n v191 v192 v193 = some o187 ∧ s = ⟨[(3, .v (.int .i64 v191)), (4, .v (.int .i64 v192)), (5, .ptr 0 0), (6, .ptr 1 0), (7, .ptr 2 0), (11, .v (.int .i64 v193))], [(0, some (.box [.lst (List.map eSeat a0.Seats), .v (.int .i64 a0.Gap), .v (.int .i64 a0.Radius), .lst (List.map eI a0.Kills), .lst (List.map ePole a0.Poles)])), (1, some (.box [.v (.int .i64 a1.Size), .v (.int .i64 a1.Wheels)])), (2, some (.box [.v (.int .i64 a2.Size), .v (.int .i64 a2.Wheels)]))], 8, []⟩) k ⟨_, ⟨a3, a4, 0, H, rfl⟩, sub_to [some 0, some 8, some 16] (by decide) rfl rfl (⟨⟨_, rfl, .one .v⟩, ⟨⟨_, rfl, .one .v⟩, ⟨⟨_, rfl, .one (.ptr rfl)⟩, ⟨⟨_, rfl, .one (.ptr rfl)⟩, ⟨⟨_, rfl, .one (.ptr rfl)⟩, ⟨⟨_, rfl, .one .v⟩, trivial⟩⟩⟩⟩⟩⟩) (⟨⟨rfl, .inl ⟨_, _, rfl, rfl, .box ⟨.lst, .v, .v, .lst, .lst, trivial⟩⟩⟩, ⟨⟨rfl, .inl ⟨_, _, rfl, rfl, .box ⟨.v, .v, trivial⟩⟩⟩, ⟨⟨rfl, .inl ⟨_, _, rfl, rfl, .box ⟨.v, .v, trivial⟩⟩⟩, trivial⟩⟩⟩)⟩ ?_
      rintro n s ⟨v191, v192, v193, H, rfl⟩
      rcases n with _ | n
      · cases (show none = some _ from H)
      rw [law11_PlaceAsks_l2] at H
      refine T.seq ?_
      refine T.seq ?_
      refine T.region ?_
      refine RunT.ot0 (x := .v (.int .i64 v193)) rfl rfl rfl rfl (.moveX rfl) ?_
      refine RunT.ot0 (x := .v (.bool (decide (v193 < 2)))) rfl rfl rfl rfl (.bin rfl rfl (fun w => b_lss w) rfl) ?_
      refine RunT.nil ?_
      refine T.cond2 (t := decide (v193 < 2)) rfl (fun c194 => ?_) (fun c194 => ?_)
      · replace H := ct H c194
        refine T.skip ?_
        refine T.seq ?_
        refine T.block ?_
        refine T.seq ?_
        refine T.region ?_
        refine RunT.ot0 (x := .agg [.lst (List.map eSeat a0.Seats), .v (.int .i64 a0.Gap), .v (.int .i64 a0.Radius), .lst (List.map eI a0.Kills), .lst (List.map ePole a0.Poles)]) rfl rfl rfl rfl (.loadP ty26 rfl rfl rfl) ?_
        refine RunT.ot0 (x := .agg [.v (.int .i64 a1.Size), .v (.int .i64 a1.Wheels)]) rfl rfl rfl rfl (.loadP ty66 rfl rfl rfl) ?_
        refine RunT.ot0 (x := .v (.int .i64 v191)) rfl rfl rfl rfl (.moveX rfl) ?_
        obtain ⟨r195, h196, H⟩ := bs H
        refine RunT.ot0 (x := .v (.bool r195)) rfl rfl rfl rfl (.callp (ref6_MayPlace_pc false k a0 a1 v191 r195 h196) rfl ⟨(.agg' ⟨.lst, .v, .v, .lst, .lst, trivial⟩), (.agg' ⟨.v, .v, trivial⟩), (.one .v), trivial⟩ rfl rfl rfl) ?_
        refine RunT.ot0 (x := .v (.bool r195)) rfl rfl rfl rfl (.assignX rfl) ?_
        refine RunT.nil ?_
        refine T.seq ?_
        refine T.region ?_
        refine RunT.ot0 (x := .agg [.lst (List.map eSeat a0.Seats), .v (.int .i64 a0.Gap), .v (.int .i64 a0.Radius), .lst (List.map eI a0.Kills), .lst (List.map ePole a0.Poles)]) rfl rfl rfl rfl (.loadP ty26 rfl rfl rfl) ?_
        refine RunT.ot0 (x := .agg [.v (.int .i64 a1.Size), .v (.int .i64 a1.Wheels)]) rfl rfl rfl rfl (.loadP ty66 rfl rfl rfl) ?_
        refine RunT.ot0 (x := .v (.int .i64 v191)) rfl rfl rfl rfl (.moveX rfl) ?_
        obtain ⟨r197, h198, H⟩ := bs H
        refine RunT.ot0 (x := .tup [.lst (List.map eI r197.1), .v (.bool r197.2)]) rfl rfl rfl rfl (.callp (PC.frozen (place_Seats_pc false k a0 a1 v191 r197 h198)) rfl ⟨(.agg' ⟨.lst, .v, .v, .lst, .lst, trivial⟩), (.agg' ⟨.v, .v, trivial⟩), (.one .v), trivial⟩ rfl rfl rfl) ?_
        refine RunT.ot0 (x := .tup [.lst (List.map eI r197.1), .v (.bool r197.2)]) rfl rfl rfl rfl (.moveX rfl) ?_
        refine RunT.ot0 (x := .lst (List.map eI r197.1)) rfl rfl rfl rfl (.extract rfl rfl) ?_
        refine RunT.ot0 (x := .v (.bool r197.2)) rfl rfl rfl rfl (.extract rfl rfl) ?_
        refine RunT.ot0 (x := .lst (List.map eI r197.1)) rfl rfl rfl rfl (.assignX rfl) ?_
        refine RunT.ot0 (x := .v (.bool r197.2)) rfl rfl rfl rfl (.assignX rfl) ?_
        refine RunT.nil ?_
        refine T.seq ?_
        obtain ⟨o227, E228, HO229⟩ := bs H
        refine T.cut (⟨[(3, .v (.int .i64 v191)), (4, .v (.int .i64 v192)), (5, .ptr 0 0), (6, .ptr 1 0), (7, .ptr 2 0), (11, .v (.int .i64 v193)), (13, .lst (List.map eI r197.1)), (14, .v (.bool r197.2)), (79, .v (.bool o227))], [(0, some (.box [.lst (List.map eSeat a0.Seats), .v (.int .i64 a0.Gap), .v (.int .i64 a0.Radius), .lst (List.map eI a0.Kills), .lst (List.map ePole a0.Poles)])), (1, some (.box [.v (.int .i64 a1.Size), .v (.int .i64 a1.Wheels)])), (2, some (.box [.v (.int .i64 a2.Size), .v (.int .i64 a2.Wheels)]))], 8, []⟩) ?_ ?_
        · have H := E228
          refine T.sub (sub_pick [3, 4, 5, 6, 7, 11, 12, 13, 14] [0, 1, 2] (st' := ⟨[(3, .v (.int .i64 v191)), (4, .v (.int .i64 v192)), (5, .ptr 0 0), (6, .ptr 1 0), (7, .ptr 2 0), (11, .v (.int .i64 v193)), (12, .v (.bool r195)), (13, .lst (List.map eI r197.1)), (14, .v (.bool r197.2))], [(0, some (.box [.lst (List.map eSeat a0.Seats), .v (.int .i64 a0.Gap), .v (.int .i64 a0.Radius), .lst (List.map eI a0.Kills), .lst (List.map ePole a0.Poles)])), (1, some (.box [.v (.int .i64 a1.Size), .v (.int .i64 a1.Wheels)])), (2, some (.box [.v (.int .i64 a2.Size), .v (.int .i64 a2.Wheels)]))], 8, []⟩) rfl rfl rfl rfl rfl) ?_
          refine T.draw (wr := []) mixed rfl rfl ?_ rfl
          refine RunD.ot0 (x := .agg [.lst (List.map eSeat a0.Seats), .v (.int .i64 a0.Gap), .v (.int .i64 a0.Radius), .lst (List.map eI a0.Kills), .lst (List.map ePole a0.Poles)]) rfl rfl rfl rfl (.loadP ty26 rfl rfl rfl) rfl ?_
          refine RunD.ot0 (x := .agg [.v (.int .i64 a1.Size), .v (.int .i64 a1.Wheels)]) rfl rfl rfl rfl (.loadP ty66 rfl rfl rfl) rfl ?_
          refine RunD.ot0 (x := .v (.int .i64 v191)) rfl rfl rfl rfl (.moveX rfl) rfl ?_
          obtain ⟨r258, h259, H⟩ := bs H
          refine RunD.ot0 (x := .v (.bool r258)) rfl rfl rfl rfl (.callp (place_May_pc false k a0 a1 v191 r258 h259) rfl ⟨(.agg' ⟨.lst, .v, .v, .lst, .lst, trivial⟩), (.agg' ⟨.v, .v, trivial⟩), (.one .v), trivial⟩ rfl rfl rfl) rfl ?_
          refine RunD.ot0 (x := .v (.bool r195)) rfl rfl rfl rfl (.moveX rfl) rfl ?_
          refine RunD.ot0 (x := .v (.bool (!(r258 == r195)))) rfl rfl rfl rfl (.bin rfl rfl (fun w => b_neB w Try.underlying4) rfl) rfl ?_
          refine RunD.ot0 (x := .v (.bool (!(r258 == r195)))) rfl rfl rfl rfl (.moveX rfl) rfl ?_
          refine RunD.cases (t := 41) (c := !(r258 == r195)) rfl (fun g260 => ?_) (fun g260 => ?_)
          · replace H := ct H g260
            refine RunD.xn rfl rfl rfl (bo g260) rfl rfl ?_
            refine RunD.xn rfl rfl rfl (bo g260) rfl rfl ?_
            refine RunD.xn rfl rfl rfl (bo g260) rfl rfl ?_
            refine RunD.ot0 (x := .v (.bool true)) rfl rfl rfl rfl (.pickT (bo g260) rfl) rfl ?_
            refine RunD.ot0 (x := .v (.bool true)) rfl rfl rfl rfl (.moveX rfl) rfl ?_
            refine RunD.xn rfl rfl rfl rfl rfl rfl ?_
            refine RunD.xn rfl rfl rfl rfl rfl rfl ?_
            refine RunD.xn rfl rfl rfl rfl rfl rfl ?_
            refine RunD.xu rfl rfl rfl rfl rfl rfl ?_
            refine RunD.xu rfl rfl rfl rfl rfl rfl ?_
            refine RunD.xu rfl rfl rfl rfl rfl rfl ?_
            refine RunD.xn rfl rfl rfl rfl rfl rfl ?_
            refine RunD.ot0 (x := .v (.bool true)) rfl rfl rfl rfl (.pickT rfl rfl) rfl ?_
            refine RunD.ot0 (x := .v (.bool true)) rfl rfl rfl rfl (.moveX rfl) rfl ?_
            refine RunD.xn rfl rfl rfl rfl rfl rfl ?_
            refine RunD.xn rfl rfl rfl rfl rfl rfl ?_
            refine RunD.xn rfl rfl rfl rfl rfl rfl ?_
            refine RunD.xn rfl rfl rfl rfl rfl rfl ?_
            refine RunD.xn rfl rfl rfl rfl rfl rfl ?_
            refine RunD.xn rfl rfl rfl rfl rfl rfl ?_
            refine RunD.xn rfl rfl rfl rfl rfl rfl ?_
            refine RunD.xn rfl rfl rfl rfl rfl rfl ?_
            refine RunD.xn rfl rfl rfl rfl rfl rfl ?_
            refine RunD.xn rfl rfl rfl rfl rfl rfl ?_
            refine RunD.xn rfl rfl rfl rfl rfl rfl ?_
            refine RunD.xn rfl rfl rfl rfl rfl rfl ?_
            refine RunD.xn rfl rfl rfl rfl rfl rfl ?_
            refine RunD.ot0 (x := .v (.bool true)) rfl rfl rfl rfl (.pickT rfl rfl) rfl ?_
            refine RunD.ot0 (x := .v (.bool true)) rfl rfl rfl rfl (.moveX rfl) rfl ?_
            refine RunD.xn rfl rfl rfl rfl rfl rfl ?_
            refine RunD.xn rfl rfl rfl rfl rfl rfl ?_
            refine RunD.xn rfl rfl rfl rfl rfl rfl ?_
            refine RunD.xn rfl rfl rfl rfl rfl rfl ?_
            refine RunD.xn rfl rfl rfl rfl rfl rfl ?_
            refine RunD.xn rfl rfl rfl rfl rfl rfl ?_
            refine RunD.xn rfl rfl rfl rfl rfl rfl ?_
            refine RunD.xn rfl rfl rfl rfl rfl rfl ?_
            refine RunD.ot0 (x := .v (.bool true)) rfl rfl rfl rfl (.pickT rfl rfl) rfl ?_
            refine RunD.nil (by kernel_rfl) ⟨rfl, rfl, ?_⟩
            obtain rfl := si H
            exact (sub_to [some 0, some 1, some 2] (by decide) rfl rfl (⟨⟨_, rfl, .one .v⟩, ⟨⟨_, rfl, .one .v⟩, ⟨⟨_, rfl, .one (.ptr rfl)⟩, ⟨⟨_, rfl, .one (.ptr rfl)⟩, ⟨⟨_, rfl, .one (.ptr rfl)⟩, ⟨⟨_, rfl, .one .v⟩, ⟨⟨_, rfl, .one .lst⟩, ⟨⟨_, rfl, .one .v⟩, ⟨⟨_, rfl, .one .v⟩, trivial⟩⟩⟩⟩⟩⟩⟩⟩⟩) (⟨⟨rfl, .inl ⟨_, _, rfl, rfl, .box ⟨.lst, .v, .v, .lst, .lst, trivial⟩⟩⟩, ⟨⟨rfl, .inl ⟨_, _, rfl, rfl, .box ⟨.v, .v, trivial⟩⟩⟩, ⟨⟨rfl, .inl ⟨_, _, rfl, rfl, .box ⟨.v, .v, trivial⟩⟩⟩, trivial⟩⟩⟩))
          · replace H := cf H g260
            refine RunD.gt0 (x := .v (.bool r197.2)) rfl rfl rfl (bo g260) rfl rfl (.moveX rfl) rfl ?_
            refine RunD.gt0 (x := .v (.bool r195)) rfl rfl rfl (bo g260) rfl rfl (.moveX rfl) rfl ?_
            refine RunD.gt0 (x := .v (.bool (!(r197.2 == r195)))) rfl rfl rfl (bo g260) rfl rfl (.bin rfl rfl (fun w => b_neB w Try.underlying4) rfl) rfl ?_
            refine RunD.ot0 (x := .v (.bool (!(r197.2 == r195)))) rfl rfl rfl rfl (.pickF (bo g260) rfl) rfl ?_
            refine RunD.ot0 (x := .v (.bool (!(r197.2 == r195)))) rfl rfl rfl rfl (.moveX rfl) rfl ?_
            refine RunD.cases (t := 46) (c := !(r197.2 == r195)) rfl (fun g261 => ?_) (fun g261 => ?_)
            · replace H := ct H g261
              refine RunD.xn rfl rfl rfl (bo g261) rfl rfl ?_
              refine RunD.xn rfl rfl rfl (bo g261) rfl rfl ?_
              refine RunD.xn rfl rfl rfl (bo g261) rfl rfl ?_
              refine RunD.xu rfl rfl rfl rfl rfl rfl ?_
              refine RunD.xu rfl rfl rfl rfl rfl rfl ?_
              refine RunD.xu rfl rfl rfl rfl rfl rfl ?_
              refine RunD.xn rfl rfl rfl (bo g261) rfl rfl ?_
              refine RunD.ot0 (x := .v (.bool true)) rfl rfl rfl rfl (.pickT (bo g261) rfl) rfl ?_
              refine RunD.ot0 (x := .v (.bool true)) rfl rfl rfl rfl (.moveX rfl) rfl ?_
              refine RunD.xn rfl rfl rfl rfl rfl rfl ?_
              refine RunD.xn rfl rfl rfl rfl rfl rfl ?_
              refine RunD.xn rfl rfl rfl rfl rfl rfl ?_
              refine RunD.xn rfl rfl rfl rfl rfl rfl ?_
              refine RunD.xn rfl rfl rfl rfl rfl rfl ?_
              refine RunD.xn rfl rfl rfl rfl rfl rfl ?_
              refine RunD.xn rfl rfl rfl rfl rfl rfl ?_
              refine RunD.xn rfl rfl rfl rfl rfl rfl ?_
              refine RunD.xn rfl rfl rfl rfl rfl rfl ?_
              refine RunD.xn rfl rfl rfl rfl rfl rfl ?_
              refine RunD.xn rfl rfl rfl rfl rfl rfl ?_
              refine RunD.xn rfl rfl rfl rfl rfl rfl ?_
              refine RunD.xn rfl rfl rfl rfl rfl rfl ?_
              refine RunD.ot0 (x := .v (.bool true)) rfl rfl rfl rfl (.pickT rfl rfl) rfl ?_
              refine RunD.ot0 (x := .v (.bool true)) rfl rfl rfl rfl (.moveX rfl) rfl ?_
              refine RunD.xn rfl rfl rfl rfl rfl rfl ?_
              refine RunD.xn rfl rfl rfl rfl rfl rfl ?_
              refine RunD.xn rfl rfl rfl rfl rfl rfl ?_
              refine RunD.xn rfl rfl rfl rfl rfl rfl ?_
              refine RunD.xn rfl rfl rfl rfl rfl rfl ?_
              refine RunD.xn rfl rfl rfl rfl rfl rfl ?_
              refine RunD.xn rfl rfl rfl rfl rfl rfl ?_
              refine RunD.xn rfl rfl rfl rfl rfl rfl ?_
              refine RunD.ot0 (x := .v (.bool true)) rfl rfl rfl rfl (.pickT rfl rfl) rfl ?_
              refine RunD.nil (by kernel_rfl) ⟨rfl, rfl, ?_⟩
              obtain rfl := si H
              exact (sub_to [some 0, some 1, some 2] (by decide) rfl rfl (⟨⟨_, rfl, .one .v⟩, ⟨⟨_, rfl, .one .v⟩, ⟨⟨_, rfl, .one (.ptr rfl)⟩, ⟨⟨_, rfl, .one (.ptr rfl)⟩, ⟨⟨_, rfl, .one (.ptr rfl)⟩, ⟨⟨_, rfl, .one .v⟩, ⟨⟨_, rfl, .one .lst⟩, ⟨⟨_, rfl, .one .v⟩, ⟨⟨_, rfl, .one .v⟩, trivial⟩⟩⟩⟩⟩⟩⟩⟩⟩) (⟨⟨rfl, .inl ⟨_, _, rfl, rfl, .box ⟨.lst, .v, .v, .lst, .lst, trivial⟩⟩⟩, ⟨⟨rfl, .inl ⟨_, _, rfl, rfl, .box ⟨.v, .v, trivial⟩⟩⟩, ⟨⟨rfl, .inl ⟨_, _, rfl, rfl, .box ⟨.v, .v, trivial⟩⟩⟩, trivial⟩⟩⟩))
            · replace H := cf H g261
              refine RunD.gt0 (x := .v (.bool r197.2)) rfl rfl rfl (bo g261) rfl rfl (.moveX rfl) rfl ?_
              refine RunD.gt0 (x := .v (.bool (!r197.2))) rfl rfl rfl (bo g261) rfl rfl (.un rfl (fun w => u_not w) rfl) rfl ?_
              refine RunD.gt0 (x := .v (.bool (!r197.2))) rfl rfl rfl (bo g261) rfl rfl (.moveX rfl) rfl ?_
              refine RunD.cases (t := 49) (c := !r197.2) rfl (fun g262 => ?_) (fun g262 => ?_)
              · replace H := ct H g262
                refine RunD.gt0 (x := .lst (List.map eI r197.1)) rfl rfl rfl (bo g262) rfl rfl (.moveX rfl) rfl ?_
                refine RunD.gt0 (x := .v (.int .i64 (r197.1.length : Int))) rfl rfl rfl (bo g262) rfl rfl (.lenLm Try.underlying23 rfl rfl) rfl ?_
                refine RunD.gt0 (x := .v (.bool (!decide ((r197.1.length : Int) = 0)))) rfl rfl rfl (bo g262) rfl rfl (.bin rfl rfl (fun w => b_neq w) rfl) rfl ?_
                refine RunD.gt0 (x := .v (.bool (!decide ((r197.1.length : Int) = 0)))) rfl rfl rfl (bo g261) rfl rfl (.pickT (bo g262) rfl) rfl ?_
                refine RunD.ot0 (x := .v (.bool (!decide ((r197.1.length : Int) = 0)))) rfl rfl rfl rfl (.pickF (bo g261) rfl) rfl ?_
                refine RunD.ot0 (x := .v (.bool (!decide ((r197.1.length : Int) = 0)))) rfl rfl rfl rfl (.moveX rfl) rfl ?_
                refine RunD.cases (t := 55) (c := !decide ((r197.1.length : Int) = 0)) rfl (fun g263 => ?_) (fun g263 => ?_)
                · replace H := ct H g263
                  refine RunD.xn rfl rfl rfl (bo g263) rfl rfl ?_
                  refine RunD.xn rfl rfl rfl (bo g263) rfl rfl ?_
                  refine RunD.xn rfl rfl rfl (bo g263) rfl rfl ?_
                  refine RunD.xn rfl rfl rfl (bo g263) rfl rfl ?_
                  refine RunD.xn rfl rfl rfl (bo g263) rfl rfl ?_
                  refine RunD.xn rfl rfl rfl (bo g263) rfl rfl ?_
                  refine RunD.xn rfl rfl rfl (bo g263) rfl rfl ?_
                  refine RunD.xn rfl rfl rfl (bo g263) rfl rfl ?_
                  refine RunD.xn rfl rfl rfl (bo g263) rfl rfl ?_
                  refine RunD.xn rfl rfl rfl (bo g263) rfl rfl ?_
                  refine RunD.xn rfl rfl rfl (bo g263) rfl rfl ?_
                  refine RunD.xn rfl rfl rfl (bo g263) rfl rfl ?_
                  refine RunD.xn rfl rfl rfl (bo g263) rfl rfl ?_
                  refine RunD.ot0 (x := .v (.bool true)) rfl rfl rfl rfl (.pickT (bo g263) rfl) rfl ?_
                  refine RunD.ot0 (x := .v (.bool true)) rfl rfl rfl rfl (.moveX rfl) rfl ?_
                  refine RunD.xn rfl rfl rfl rfl rfl rfl ?_
                  refine RunD.xn rfl rfl rfl rfl rfl rfl ?_
                  refine RunD.xn rfl rfl rfl rfl rfl rfl ?_
                  refine RunD.xn rfl rfl rfl rfl rfl rfl ?_
                  refine RunD.xn rfl rfl rfl rfl rfl rfl ?_
                  refine RunD.xn rfl rfl rfl rfl rfl rfl ?_
                  refine RunD.xn rfl rfl rfl rfl rfl rfl ?_
                  refine RunD.xn rfl rfl rfl rfl rfl rfl ?_
                  refine RunD.ot0 (x := .v (.bool true)) rfl rfl rfl rfl (.pickT rfl rfl) rfl ?_
                  refine RunD.nil (by kernel_rfl) ⟨rfl, rfl, ?_⟩
                  obtain rfl := si H
                  exact (sub_to [some 0, some 1, some 2] (by decide) rfl rfl (⟨⟨_, rfl, .one .v⟩, ⟨⟨_, rfl, .one .v⟩, ⟨⟨_, rfl, .one (.ptr rfl)⟩, ⟨⟨_, rfl, .one (.ptr rfl)⟩, ⟨⟨_, rfl, .one (.ptr rfl)⟩, ⟨⟨_, rfl, .one .v⟩, ⟨⟨_, rfl, .one .lst⟩, ⟨⟨_, rfl, .one .v⟩, ⟨⟨_, rfl, .one .v⟩, trivial⟩⟩⟩⟩⟩⟩⟩⟩⟩) (⟨⟨rfl, .inl ⟨_, _, rfl, rfl, .box ⟨.lst, .v, .v, .lst, .lst, trivial⟩⟩⟩, ⟨⟨rfl, .inl ⟨_, _, rfl, rfl, .box ⟨.v, .v, trivial⟩⟩⟩, ⟨⟨rfl, .inl ⟨_, _, rfl, rfl, .box ⟨.v, .v, trivial⟩⟩⟩, trivial⟩⟩⟩))
                · replace H := cf H g263
                  refine RunD.gt0 (x := .agg [.lst (List.map eSeat a0.Seats), .v (.int .i64 a0.Gap), .v (.int .i64 a0.Radius), .lst (List.map eI a0.Kills), .lst (List.map ePole a0.Poles)]) rfl rfl rfl (bo g263) rfl rfl (.loadP ty26 rfl rfl rfl) rfl ?_
                  refine RunD.gt0 (x := .agg [.v (.int .i64 a1.Size), .v (.int .i64 a1.Wheels)]) rfl rfl rfl (bo g263) rfl rfl (.loadP ty66 rfl rfl rfl) rfl ?_
                  refine RunD.gt0 (x := .v (.int .i64 v191)) rfl rfl rfl (bo g263) rfl rfl (.moveX rfl) rfl ?_
                  refine RunD.gt0 (x := .agg [.v (.int .i64 a2.Size), .v (.int .i64 a2.Wheels)]) rfl rfl rfl (bo g263) rfl rfl (.loadP ty66 rfl rfl rfl) rfl ?_
                  refine RunD.gt0 (x := .v (.int .i64 v192)) rfl rfl rfl (bo g263) rfl rfl (.moveX rfl) rfl ?_
                  obtain ⟨r264, h265, H⟩ := bs H
                  refine RunD.gt0 (x := .v (.bool r264)) rfl rfl rfl (bo g263) rfl rfl (.callp (place_Apart_pc false k a0 a1 v191 a2 v192 r264 h265) rfl ⟨(.agg' ⟨.lst, .v, .v, .lst, .lst, trivial⟩), (.agg' ⟨.v, .v, trivial⟩), (.one .v), (.agg' ⟨.v, .v, trivial⟩), (.one .v), trivial⟩ rfl rfl rfl) rfl ?_
                  refine RunD.gt0 (x := .agg [.lst (List.map eSeat a0.Seats), .v (.int .i64 a0.Gap), .v (.int .i64 a0.Radius), .lst (List.map eI a0.Kills), .lst (List.map ePole a0.Poles)]) rfl rfl rfl (bo g263) rfl rfl (.loadP ty26 rfl rfl rfl) rfl ?_
                  refine RunD.gt0 (x := .agg [.v (.int .i64 a1.Size), .v (.int .i64 a1.Wheels)]) rfl rfl rfl (bo g263) rfl rfl (.loadP ty66 rfl rfl rfl) rfl ?_
                  refine RunD.gt0 (x := .v (.int .i64 v191)) rfl rfl rfl (bo g263) rfl rfl (.moveX rfl) rfl ?_
                  refine RunD.gt0 (x := .agg [.v (.int .i64 a2.Size), .v (.int .i64 a2.Wheels)]) rfl rfl rfl (bo g263) rfl rfl (.loadP ty66 rfl rfl rfl) rfl ?_
                  refine RunD.gt0 (x := .v (.int .i64 v192)) rfl rfl rfl (bo g263) rfl rfl (.moveX rfl) rfl ?_
                  obtain ⟨r266, h267, H⟩ := bs H
                  refine RunD.gt0 (x := .v (.bool r266)) rfl rfl rfl (bo g263) rfl rfl (.callp (ref6_Apart_pc false k a0 a1 v191 a2 v192 r266 h267) rfl ⟨(.agg' ⟨.lst, .v, .v, .lst, .lst, trivial⟩), (.agg' ⟨.v, .v, trivial⟩), (.one .v), (.agg' ⟨.v, .v, trivial⟩), (.one .v), trivial⟩ rfl rfl rfl) rfl ?_
                  refine RunD.gt0 (x := .v (.bool (!(r264 == r266)))) rfl rfl rfl (bo g263) rfl rfl (.bin rfl rfl (fun w => b_neB w Try.underlying4) rfl) rfl ?_
                  refine RunD.ot0 (x := .v (.bool (!(r264 == r266)))) rfl rfl rfl rfl (.pickF (bo g263) rfl) rfl ?_
                  refine RunD.ot0 (x := .v (.bool (!(r264 == r266)))) rfl rfl rfl rfl (.moveX rfl) rfl ?_
                  refine RunD.cases (t := 70) (c := !(r264 == r266)) rfl (fun g268 => ?_) (fun g268 => ?_)
                  · replace H := ct H g268
                    refine RunD.xn rfl rfl rfl (bo g268) rfl rfl ?_
                    refine RunD.xn rfl rfl rfl (bo g268) rfl rfl ?_
                    refine RunD.xn rfl rfl rfl (bo g268) rfl rfl ?_
                    refine RunD.xn rfl rfl rfl (bo g268) rfl rfl ?_
                    refine RunD.xn rfl rfl rfl (bo g268) rfl rfl ?_
                    refine RunD.xn rfl rfl rfl (bo g268) rfl rfl ?_
                    refine RunD.xn rfl rfl rfl (bo g268) rfl rfl ?_
                    refine RunD.xn rfl rfl rfl (bo g268) rfl rfl ?_
                    refine RunD.ot0 (x := .v (.bool true)) rfl rfl rfl rfl (.pickT (bo g268) rfl) rfl ?_
                    refine RunD.nil (by kernel_rfl) ⟨rfl, rfl, ?_⟩
                    obtain rfl := si H
                    exact (sub_to [some 0, some 1, some 2] (by decide) rfl rfl (⟨⟨_, rfl, .one .v⟩, ⟨⟨_, rfl, .one .v⟩, ⟨⟨_, rfl, .one (.ptr rfl)⟩, ⟨⟨_, rfl, .one (.ptr rfl)⟩, ⟨⟨_, rfl, .one (.ptr rfl)⟩, ⟨⟨_, rfl, .one .v⟩, ⟨⟨_, rfl, .one .lst⟩, ⟨⟨_, rfl, .one .v⟩, ⟨⟨_, rfl, .one .v⟩, trivial⟩⟩⟩⟩⟩⟩⟩⟩⟩) (⟨⟨rfl, .inl ⟨_, _, rfl, rfl, .box ⟨.lst, .v, .v, .lst, .lst, trivial⟩⟩⟩, ⟨⟨rfl, .inl ⟨_, _, rfl, rfl, .box ⟨.v, .v, trivial⟩⟩⟩, ⟨⟨rfl, .inl ⟨_, _, rfl, rfl, .box ⟨.v, .v, trivial⟩⟩⟩, trivial⟩⟩⟩))
                  · replace H := cf H g268
                    refine RunD.gt0 (x := .agg [.lst (List.map eSeat a0.Seats), .v (.int .i64 a0.Gap), .v (.int .i64 a0.Radius), .lst (List.map eI a0.Kills), .lst (List.map ePole a0.Poles)]) rfl rfl rfl (bo g268) rfl rfl (.loadP ty26 rfl rfl rfl) rfl ?_
                    refine RunD.gt0 (x := .agg [.v (.int .i64 a1.Size), .v (.int .i64 a1.Wheels)]) rfl rfl rfl (bo g268) rfl rfl (.loadP ty66 rfl rfl rfl) rfl ?_
                    obtain ⟨r269, h270, H⟩ := bs H
                    refine RunD.gt0 (x := .lst (List.map eI r269)) rfl rfl rfl (bo g268) rfl rfl (.callp (PC.frozen (place_All_pc false k a0 a1 r269 h270)) rfl ⟨(.agg' ⟨.lst, .v, .v, .lst, .lst, trivial⟩), (.agg' ⟨.v, .v, trivial⟩), trivial⟩ rfl rfl rfl) rfl ?_
                    refine RunD.gt0 (x := .agg [.lst (List.map eSeat a0.Seats), .v (.int .i64 a0.Gap), .v (.int .i64 a0.Radius), .lst (List.map eI a0.Kills), .lst (List.map ePole a0.Poles)]) rfl rfl rfl (bo g268) rfl rfl (.loadP ty26 rfl rfl rfl) rfl ?_
                    refine RunD.gt0 (x := .agg [.v (.int .i64 a1.Size), .v (.int .i64 a1.Wheels)]) rfl rfl rfl (bo g268) rfl rfl (.loadP ty66 rfl rfl rfl) rfl ?_
                    obtain ⟨r271, h272, H⟩ := bs H
                    refine RunD.gt0 (x := .lst (List.map eI r271)) rfl rfl rfl (bo g268) rfl rfl (.callp (PC.frozen (ref6_AllPlaces_pc false k a0 a1 r271 h272)) rfl ⟨(.agg' ⟨.lst, .v, .v, .lst, .lst, trivial⟩), (.agg' ⟨.v, .v, trivial⟩), trivial⟩ rfl rfl rfl) rfl ?_
                    obtain ⟨r273, h274, H⟩ := bs H
                    refine RunD.gt0 (x := .v (.bool r273)) rfl rfl rfl (bo g268) rfl rfl (.callp (ref6_SameInts_pc false k r269 r271 r273 h274) rfl ⟨(.one .lst), (.one .lst), trivial⟩ rfl rfl rfl) rfl ?_
                    refine RunD.gt0 (x := .v (.bool (!r273))) rfl rfl rfl (bo g268) rfl rfl (.un rfl (fun w => u_not w) rfl) rfl ?_
                    refine RunD.ot0 (x := .v (.bool (!r273))) rfl rfl rfl rfl (.pickF (bo g268) rfl) rfl ?_
                    refine RunD.nil (by kernel_rfl) ⟨rfl, rfl, ?_⟩
                    obtain rfl := si H
                    exact (sub_to [some 0, some 1, some 2] (by decide) rfl rfl (⟨⟨_, rfl, .one .v⟩, ⟨⟨_, rfl, .one .v⟩, ⟨⟨_, rfl, .one (.ptr rfl)⟩, ⟨⟨_, rfl, .one (.ptr rfl)⟩, ⟨⟨_, rfl, .one (.ptr rfl)⟩, ⟨⟨_, rfl, .one .v⟩, ⟨⟨_, rfl, .one .lst⟩, ⟨⟨_, rfl, .one .v⟩, ⟨⟨_, rfl, .one .v⟩, trivial⟩⟩⟩⟩⟩⟩⟩⟩⟩) (⟨⟨rfl, .inl ⟨_, _, rfl, rfl, .box ⟨.lst, .v, .v, .lst, .lst, trivial⟩⟩⟩, ⟨⟨rfl, .inl ⟨_, _, rfl, rfl, .box ⟨.v, .v, trivial⟩⟩⟩, ⟨⟨rfl, .inl ⟨_, _, rfl, rfl, .box ⟨.v, .v, trivial⟩⟩⟩, trivial⟩⟩⟩))
              · replace H := cf H g262
                refine RunD.xn rfl rfl rfl (bo g262) rfl rfl ?_
                refine RunD.xn rfl rfl rfl (bo g262) rfl rfl ?_
                refine RunD.xn rfl rfl rfl (bo g262) rfl rfl ?_
                refine RunD.gt0 (x := .v (.bool false)) rfl rfl rfl (bo g261) rfl rfl (.pickF (bo g262) rfl) rfl ?_
                refine RunD.ot0 (x := .v (.bool false)) rfl rfl rfl rfl (.pickF (bo g261) rfl) rfl ?_
                refine RunD.ot0 (x := .v (.bool false)) rfl rfl rfl rfl (.moveX rfl) rfl ?_
                refine RunD.gt0 (x := .agg [.lst (List.map eSeat a0.Seats), .v (.int .i64 a0.Gap), .v (.int .i64 a0.Radius), .lst (List.map eI a0.Kills), .lst (List.map ePole a0.Poles)]) rfl rfl rfl rfl rfl rfl (.loadP ty26 rfl rfl rfl) rfl ?_
                refine RunD.gt0 (x := .agg [.v (.int .i64 a1.Size), .v (.int .i64 a1.Wheels)]) rfl rfl rfl rfl rfl rfl (.loadP ty66 rfl rfl rfl) rfl ?_
                refine RunD.gt0 (x := .v (.int .i64 v191)) rfl rfl rfl rfl rfl rfl (.moveX rfl) rfl ?_
                refine RunD.gt0 (x := .agg [.v (.int .i64 a2.Size), .v (.int .i64 a2.Wheels)]) rfl rfl rfl rfl rfl rfl (.loadP ty66 rfl rfl rfl) rfl ?_
                refine RunD.gt0 (x := .v (.int .i64 v192)) rfl rfl rfl rfl rfl rfl (.moveX rfl) rfl ?_
                obtain ⟨r275, h276, H⟩ := bs H
                refine RunD.gt0 (x := .v (.bool r275)) rfl rfl rfl rfl rfl rfl (.callp (place_Apart_pc false k a0 a1 v191 a2 v192 r275 h276) rfl ⟨(.agg' ⟨.lst, .v, .v, .lst, .lst, trivial⟩), (.agg' ⟨.v, .v, trivial⟩), (.one .v), (.agg' ⟨.v, .v, trivial⟩), (.one .v), trivial⟩ rfl rfl rfl) rfl ?_
                refine RunD.gt0 (x := .agg [.lst (List.map eSeat a0.Seats), .v (.int .i64 a0.Gap), .v (.int .i64 a0.Radius), .lst (List.map eI a0.Kills), .lst (List.map ePole a0.Poles)]) rfl rfl rfl rfl rfl rfl (.loadP ty26 rfl rfl rfl) rfl ?_
                refine RunD.gt0 (x := .agg [.v (.int .i64 a1.Size), .v (.int .i64 a1.Wheels)]) rfl rfl rfl rfl rfl rfl (.loadP ty66 rfl rfl rfl) rfl ?_
                refine RunD.gt0 (x := .v (.int .i64 v191)) rfl rfl rfl rfl rfl rfl (.moveX rfl) rfl ?_
                refine RunD.gt0 (x := .agg [.v (.int .i64 a2.Size), .v (.int .i64 a2.Wheels)]) rfl rfl rfl rfl rfl rfl (.loadP ty66 rfl rfl rfl) rfl ?_
                refine RunD.gt0 (x := .v (.int .i64 v192)) rfl rfl rfl rfl rfl rfl (.moveX rfl) rfl ?_
                obtain ⟨r277, h278, H⟩ := bs H
                refine RunD.gt0 (x := .v (.bool r277)) rfl rfl rfl rfl rfl rfl (.callp (ref6_Apart_pc false k a0 a1 v191 a2 v192 r277 h278) rfl ⟨(.agg' ⟨.lst, .v, .v, .lst, .lst, trivial⟩), (.agg' ⟨.v, .v, trivial⟩), (.one .v), (.agg' ⟨.v, .v, trivial⟩), (.one .v), trivial⟩ rfl rfl rfl) rfl ?_
                refine RunD.gt0 (x := .v (.bool (!(r275 == r277)))) rfl rfl rfl rfl rfl rfl (.bin rfl rfl (fun w => b_neB w Try.underlying4) rfl) rfl ?_
                refine RunD.ot0 (x := .v (.bool (!(r275 == r277)))) rfl rfl rfl rfl (.pickF rfl rfl) rfl ?_
                refine RunD.ot0 (x := .v (.bool (!(r275 == r277)))) rfl rfl rfl rfl (.moveX rfl) rfl ?_
                refine RunD.cases (t := 70) (c := !(r275 == r277)) rfl (fun g279 => ?_) (fun g279 => ?_)
                · replace H := ct H g279
                  refine RunD.xn rfl rfl rfl (bo g279) rfl rfl ?_
                  refine RunD.xn rfl rfl rfl (bo g279) rfl rfl ?_
                  refine RunD.xn rfl rfl rfl (bo g279) rfl rfl ?_
                  refine RunD.xn rfl rfl rfl (bo g279) rfl rfl ?_
                  refine RunD.xn rfl rfl rfl (bo g279) rfl rfl ?_
                  refine RunD.xn rfl rfl rfl (bo g279) rfl rfl ?_
                  refine RunD.xn rfl rfl rfl (bo g279) rfl rfl ?_
                  refine RunD.xn rfl rfl rfl (bo g279) rfl rfl ?_
                  refine RunD.ot0 (x := .v (.bool true)) rfl rfl rfl rfl (.pickT (bo g279) rfl) rfl ?_
                  refine RunD.nil (by kernel_rfl) ⟨rfl, rfl, ?_⟩
                  obtain rfl := si H
                  exact (sub_to [some 0, some 1, some 2] (by decide) rfl rfl (⟨⟨_, rfl, .one .v⟩, ⟨⟨_, rfl, .one .v⟩, ⟨⟨_, rfl, .one (.ptr rfl)⟩, ⟨⟨_, rfl, .one (.ptr rfl)⟩, ⟨⟨_, rfl, .one (.ptr rfl)⟩, ⟨⟨_, rfl, .one .v⟩, ⟨⟨_, rfl, .one .lst⟩, ⟨⟨_, rfl, .one .v⟩, ⟨⟨_, rfl, .one .v⟩, trivial⟩⟩⟩⟩⟩⟩⟩⟩⟩) (⟨⟨rfl, .inl ⟨_, _, rfl, rfl, .box ⟨.lst, .v, .v, .lst, .lst, trivial⟩⟩⟩, ⟨⟨rfl, .inl ⟨_, _, rfl, rfl, .box ⟨.v, .v, trivial⟩⟩⟩, ⟨⟨rfl, .inl ⟨_, _, rfl, rfl, .box ⟨.v, .v, trivial⟩⟩⟩, trivial⟩⟩⟩))
                · replace H := cf H g279
                  refine RunD.gt0 (x := .agg [.lst (List.map eSeat a0.Seats), .v (.int .i64 a0.Gap), .v (.int .i64 a0.Radius), .lst (List.map eI a0.Kills), .lst (List.map ePole a0.Poles)]) rfl rfl rfl (bo g279) rfl rfl (.loadP ty26 rfl rfl rfl) rfl ?_
                  refine RunD.gt0 (x := .agg [.v (.int .i64 a1.Size), .v (.int .i64 a1.Wheels)]) rfl rfl rfl (bo g279) rfl rfl (.loadP ty66 rfl rfl rfl) rfl ?_
                  obtain ⟨r280, h281, H⟩ := bs H
                  refine RunD.gt0 (x := .lst (List.map eI r280)) rfl rfl rfl (bo g279) rfl rfl (.callp (PC.frozen (place_All_pc false k a0 a1 r280 h281)) rfl ⟨(.agg' ⟨.lst, .v, .v, .lst, .lst, trivial⟩), (.agg' ⟨.v, .v, trivial⟩), trivial⟩ rfl rfl rfl) rfl ?_
                  refine RunD.gt0 (x := .agg [.lst (List.map eSeat a0.Seats), .v (.int .i64 a0.Gap), .v (.int .i64 a0.Radius), .lst (List.map eI a0.Kills), .lst (List.map ePole a0.Poles)]) rfl rfl rfl (bo g279) rfl rfl (.loadP ty26 rfl rfl rfl) rfl ?_
                  refine RunD.gt0 (x := .agg [.v (.int .i64 a1.Size), .v (.int .i64 a1.Wheels)]) rfl rfl rfl (bo g279) rfl rfl (.loadP ty66 rfl rfl rfl) rfl ?_
                  obtain ⟨r282, h283, H⟩ := bs H
                  refine RunD.gt0 (x := .lst (List.map eI r282)) rfl rfl rfl (bo g279) rfl rfl (.callp (PC.frozen (ref6_AllPlaces_pc false k a0 a1 r282 h283)) rfl ⟨(.agg' ⟨.lst, .v, .v, .lst, .lst, trivial⟩), (.agg' ⟨.v, .v, trivial⟩), trivial⟩ rfl rfl rfl) rfl ?_
                  obtain ⟨r284, h285, H⟩ := bs H
                  refine RunD.gt0 (x := .v (.bool r284)) rfl rfl rfl (bo g279) rfl rfl (.callp (ref6_SameInts_pc false k r280 r282 r284 h285) rfl ⟨(.one .lst), (.one .lst), trivial⟩ rfl rfl rfl) rfl ?_
                  refine RunD.gt0 (x := .v (.bool (!r284))) rfl rfl rfl (bo g279) rfl rfl (.un rfl (fun w => u_not w) rfl) rfl ?_
                  refine RunD.ot0 (x := .v (.bool (!r284))) rfl rfl rfl rfl (.pickF (bo g279) rfl) rfl ?_
                  refine RunD.nil (by kernel_rfl) ⟨rfl, rfl, ?_⟩
                  obtain rfl := si H
                  exact (sub_to [some 0, some 1, some 2] (by decide) rfl rfl (⟨⟨_, rfl, .one .v⟩, ⟨⟨_, rfl, .one .v⟩, ⟨⟨_, rfl, .one (.ptr rfl)⟩, ⟨⟨_, rfl, .one (.ptr rfl)⟩, ⟨⟨_, rfl, .one (.ptr rfl)⟩, ⟨⟨_, rfl, .one .v⟩, ⟨⟨_, rfl, .one .lst⟩, ⟨⟨_, rfl, .one .v⟩, ⟨⟨_, rfl, .one .v⟩, trivial⟩⟩⟩⟩⟩⟩⟩⟩⟩) (⟨⟨rfl, .inl ⟨_, _, rfl, rfl, .box ⟨.lst, .v, .v, .lst, .lst, trivial⟩⟩⟩, ⟨⟨rfl, .inl ⟨_, _, rfl, rfl, .box ⟨.v, .v, trivial⟩⟩⟩, ⟨⟨rfl, .inl ⟨_, _, rfl, rfl, .box ⟨.v, .v, trivial⟩⟩⟩, trivial⟩⟩⟩))
        · have H := HO229
          refine T.cond2 (t := o227) rfl (fun c286 => ?_) (fun c286 => ?_)
          · replace H := ct H c286
            refine T.seq ?_
            refine T.sub (sub_pick [] [] (st' := ⟨[], [], 8, []⟩) rfl rfl rfl rfl rfl) ?_
            refine T.region ?_
            refine RunT.ot0 (x := .v (.bool false)) rfl rfl rfl rfl (.assignX rfl) ?_
            refine RunT.nil ?_
            obtain rfl := si H
            have HX := exr HO189
            obtain rfl := si HX
            refine T.sub (sub_to (st' := ⟨[(10, .v (.bool false))], [], 8, []⟩) [] (by decide) rfl rfl (⟨⟨_, rfl, .one .v⟩, trivial⟩) (trivial)) ?_
            refine T.ret ?_
            exact RetOk.same [.v (.bool false)] ⟨rfl, trivial⟩ rfl rfl rfl
          · replace H := cf H c286
            refine T.skip ?_
            refine T.seq ?_
            refine T.seq ?_
            refine T.region ?_
            refine RunT.ot0 (x := .v (.int .i64 0)) rfl rfl rfl rfl (.assignX rfl) ?_
            refine RunT.nil ?_
            obtain ⟨o296, E297, HO298⟩ := bs H
            refine T.cutPE (fun v299 => o296 = .go v299) (fun v299 => ⟨[(3, .v (.int .i64 v191)), (4, .v (.int .i64 v192)), (5, .ptr 0 0), (6, .ptr 1 0), (7, .ptr 2 0), (11, .v (.int .i64 v193)), (13, .lst (List.map eI r197.1)), (14, .v (.bool r197.2))], [(0, some (.box [.lst (List.map eSeat a0.Seats), .v (.int .i64 a0.Gap), .v (.int .i64 a0.Radius), .lst (List.map eI a0.Kills), .lst (List.map ePole a0.Poles)])), (1, some (.box [.v (.int .i64 a1.Size), .v (.int .i64 a1.Wheels)])), (2, some (.box [.v (.int .i64 a2.Size), .v (.int .i64 a2.Wheels)]))], 8, []⟩) ?_ ?_
            · have H := E297
              refine T.block ?_
              refine T.loopS (fun n s => ∃ (v300 : Int), law11_PlaceAsks_l3 k r197 v191 n v300 = some o296 ∧ s = ⟨[(3, .v (.int .i64 v191)), (4, .v (.int .i64 v192)), (5, .ptr 0 0), (6, .ptr 1 0), (7, .ptr 2 0), (11, .v (.int .i64 v193)), (13, .lst (List.map eI r197.1)), (14, .v (.bool r197.2)), (15, .v (.int .i64 v300))], [(0, some (.box [.lst (List.map eSeat a0.Seats), .v (.int .i64 a0.Gap), .v (.int .i64 a0.Radius), .lst (List.map eI a0.Kills), .lst (List.map ePole a0.Poles)])), (1, some (.box [.v (.int .i64 a1.Size), .v (.int .i64 a1.Wheels)])), (2, some (.box [.v (.int .i64 a2.Size), .v (.int .i64 a2.Wheels)]))], 8, []⟩) k ⟨_, ⟨0, H, rfl⟩, sub_to [some 0, some 1, some 2] (by decide) rfl rfl (⟨⟨_, rfl, .one .v⟩, ⟨⟨_, rfl, .one .v⟩, ⟨⟨_, rfl, .one (.ptr rfl)⟩, ⟨⟨_, rfl, .one (.ptr rfl)⟩, ⟨⟨_, rfl, .one (.ptr rfl)⟩, ⟨⟨_, rfl, .one .v⟩, ⟨⟨_, rfl, .one .lst⟩, ⟨⟨_, rfl, .one .v⟩, ⟨⟨_, rfl, .one .v⟩, trivial⟩⟩⟩⟩⟩⟩⟩⟩⟩) (⟨⟨rfl, .inl ⟨_, _, rfl, rfl, .box ⟨.lst, .v, .v, .lst, .lst, trivial⟩⟩⟩, ⟨⟨rfl, .inl ⟨_, _, rfl, rfl, .box ⟨.v, .v, trivial⟩⟩⟩, ⟨⟨rfl, .inl ⟨_, _, rfl, rfl, .box ⟨.v, .v, trivial⟩⟩⟩, trivial⟩⟩⟩)⟩ ?_
              rintro n s ⟨v300, H, rfl⟩
              rcases n with _ | n
              · cases (show none = some _ from H)
              rw [law11_PlaceAsks_l3] at H
              refine T.seq ?_
              refine T.seq ?_
              refine T.sub (sub_pick [3, 4, 5, 6, 7, 11, 13, 14, 15] [0, 1, 2] (st' := ⟨[(3, .v (.int .i64 v191)), (4, .v (.int .i64 v192)), (5, .ptr 0 0), (6, .ptr 1 0), (7, .ptr 2 0), (11, .v (.int .i64 v193)), (13, .lst (List.map eI r197.1)), (14, .v (.bool r197.2)), (15, .v (.int .i64 v300))], [(0, some (.box [.lst (List.map eSeat a0.Seats), .v (.int .i64 a0.Gap), .v (.int .i64 a0.Radius), .lst (List.map eI a0.Kills), .lst (List.map ePole a0.Poles)])), (1, some (.box [.v (.int .i64 a1.Size), .v (.int .i64 a1.Wheels)])), (2, some (.box [.v (.int .i64 a2.Size), .v (.int .i64 a2.Wheels)]))], 8, []⟩) rfl rfl rfl rfl rfl) ?_
              refine T.region ?_
              refine RunT.ot0 (x := .v (.int .i64 v300)) rfl rfl rfl rfl (.moveX rfl) ?_
              refine RunT.ot0 (x := .lst (List.map eI r197.1)) rfl rfl rfl rfl (.moveX rfl) ?_
              refine RunT.ot0 (x := .v (.int .i64 (r197.1.length : Int))) rfl rfl rfl rfl (.lenLm Try.underlying23 rfl rfl) ?_
              refine RunT.ot0 (x := .v (.bool (decide (v300 < (r197.1.length : Int))))) rfl rfl rfl rfl (.bin rfl rfl (fun w => b_lss w) rfl) ?_
              refine RunT.nil ?_
              refine T.cond2 (t := decide (v300 < (r197.1.length : Int))) rfl (fun c301 => ?_) (fun c301 => ?_)
              · replace H := ct H c301
                refine T.skip ?_
                refine T.seq ?_
                refine T.block ?_
                refine T.seq ?_
                refine T.region ?_
                refine RunT.ot0 (x := .lst (List.map eI r197.1)) rfl rfl rfl rfl (.moveX rfl) ?_
                refine RunT.ot0 (x := .v (.int .i64 v300)) rfl rfl rfl rfl (.moveX rfl) ?_
                obtain ⟨y302, h303, H⟩ := bs H
                refine RunT.ot0 (x := .rptr [.v (.int .i64 y302)]) rfl rfl rfl rfl (.idxLX h303 enc_I sl23 rfl rfl rfl) ?_
                refine RunT.ot0 (x := .v (.int .i64 y302)) rfl rfl rfl rfl (.loadR ty3 rfl rfl) ?_
                refine RunT.ot0 (x := .v (.int .i64 v191)) rfl rfl rfl rfl (.moveX rfl) ?_
                refine RunT.ot0 (x := .v (.int .i64 v300)) rfl rfl rfl rfl (.moveX rfl) ?_
                refine RunT.ot0 (x := .v (.int .i64 (wr (v191 + v300)))) rfl rfl rfl rfl (.bin rfl rfl (fun w => b_addw w) rfl) ?_
                refine RunT.ot0 (x := .v (.bool (!decide (y302 = (wr (v191 + v300)))))) rfl rfl rfl rfl (.bin rfl rfl (fun w => b_neq w) rfl) ?_
                refine RunT.nil ?_
                refine T.cond2 (t := !decide (y302 = (wr (v191 + v300)))) rfl (fun c304 => ?_) (fun c304 => ?_)
                · replace H := ct H c304
                  refine T.seq ?_
                  refine T.region ?_
                  refine RunT.ot0 (x := .v (.bool false)) rfl rfl rfl rfl (.assignX rfl) ?_
                  refine RunT.nil ?_
                  obtain rfl := si H
                  have HX := exr HO298
                  obtain rfl := si HX
                  have HX := exr HO189
                  obtain rfl := si HX
                  refine T.sub (sub_to (st' := ⟨[(10, .v (.bool false))], [], 8, []⟩) [] (by decide) rfl rfl (⟨⟨_, rfl, .one .v⟩, trivial⟩) (trivial)) ?_
                  refine T.ret ?_
                  exact RetOk.same [.v (.bool false)] ⟨rfl, trivial⟩ rfl rfl rfl
                · replace H := cf H c304
                  refine T.skip ?_
                  refine T.region ?_
                  refine RunT.ot0 (x := .v (.int .i64 v300)) rfl rfl rfl rfl (.moveX rfl) ?_
                  refine RunT.ot0 (x := .v (.int .i64 (wr (v300 + 1)))) rfl rfl rfl rfl (.bin rfl rfl (fun w => b_addw w) rfl) ?_
                  refine RunT.ot0 (x := .v (.int .i64 (wr (v300 + 1)))) rfl rfl rfl rfl (.assignX rfl) ?_
                  refine RunT.nil ?_
                  exact ⟨n, Nat.lt_succ_self n, _, ⟨wr (v300 + 1), H, rfl⟩, (sub_to [some 0, some 1, some 2] (by decide) rfl rfl (⟨⟨_, rfl, .one .v⟩, ⟨⟨_, rfl, .one .v⟩, ⟨⟨_, rfl, .one (.ptr rfl)⟩, ⟨⟨_, rfl, .one (.ptr rfl)⟩, ⟨⟨_, rfl, .one (.ptr rfl)⟩, ⟨⟨_, rfl, .one .v⟩, ⟨⟨_, rfl, .one .lst⟩, ⟨⟨_, rfl, .one .v⟩, ⟨⟨_, rfl, .one .v⟩, trivial⟩⟩⟩⟩⟩⟩⟩⟩⟩) (⟨⟨rfl, .inl ⟨_, _, rfl, rfl, .box ⟨.lst, .v, .v, .lst, .lst, trivial⟩⟩⟩, ⟨⟨rfl, .inl ⟨_, _, rfl, rfl, .box ⟨.v, .v, trivial⟩⟩⟩, ⟨⟨rfl, .inl ⟨_, _, rfl, rfl, .box ⟨.v, .v, trivial⟩⟩⟩, trivial⟩⟩⟩))⟩
              · replace H := cf H c301
                refine T.exit ?_
                obtain rfl := si H
                exact ⟨_, rfl, (sub_to [some 0, some 1, some 2] (by decide) rfl rfl (⟨⟨_, rfl, .one .v⟩, ⟨⟨_, rfl, .one .v⟩, ⟨⟨_, rfl, .one (.ptr rfl)⟩, ⟨⟨_, rfl, .one (.ptr rfl)⟩, ⟨⟨_, rfl, .one (.ptr rfl)⟩, ⟨⟨_, rfl, .one .v⟩, ⟨⟨_, rfl, .one .lst⟩, ⟨⟨_, rfl, .one .v⟩, trivial⟩⟩⟩⟩⟩⟩⟩⟩) (⟨⟨rfl, .inl ⟨_, _, rfl, rfl, .box ⟨.lst, .v, .v, .lst, .lst, trivial⟩⟩⟩, ⟨⟨rfl, .inl ⟨_, _, rfl, rfl, .box ⟨.v, .v, trivial⟩⟩⟩, ⟨⟨rfl, .inl ⟨_, _, rfl, rfl, .box ⟨.v, .v, trivial⟩⟩⟩, trivial⟩⟩⟩))⟩
            · intro v299 s hR hS
              subst hR
              have H := exg HO298
              refine T.sub hS ?_
              refine T.seq ?_
              refine T.seq ?_
              refine T.sub (sub_pick [3, 4, 5, 6, 7, 11, 13, 14] [0, 1, 2] (st' := ⟨[(3, .v (.int .i64 v191)), (4, .v (.int .i64 v192)), (5, .ptr 0 0), (6, .ptr 1 0), (7, .ptr 2 0), (11, .v (.int .i64 v193)), (13, .lst (List.map eI r197.1)), (14, .v (.bool r197.2))], [(0, some (.box [.lst (List.map eSeat a0.Seats), .v (.int .i64 a0.Gap), .v (.int .i64 a0.Radius), .lst (List.map eI a0.Kills), .lst (List.map ePole a0.Poles)])), (1, some (.box [.v (.int .i64 a1.Size), .v (.int .i64 a1.Wheels)])), (2, some (.box [.v (.int .i64 a2.Size), .v (.int .i64 a2.Wheels)]))], 8, []⟩) rfl rfl rfl rfl rfl) ?_
              refine T.region ?_
              refine RunT.ot0 (x := .v (.bool r197.2)) rfl rfl rfl rfl (.moveX rfl) ?_
              refine RunT.ot0 (x := .v (.bool r197.2)) rfl rfl rfl rfl (.moveX rfl) ?_
              refine RunT.cases (t := 95) (c := r197.2) rfl (fun g305 => ?_) (fun g305 => ?_)
              · replace H := ct H g305
                refine RunT.gt0 (x := .lst (List.map eI r197.1)) rfl rfl rfl (bo g305) rfl rfl (.moveX rfl) ?_
                refine RunT.gt0 (x := .v (.int .i64 (r197.1.length : Int))) rfl rfl rfl (bo g305) rfl rfl (.lenLm Try.underlying23 rfl rfl) ?_
                refine RunT.gt0 (x := .ptr 1 0) rfl rfl rfl (bo g305) rfl rfl (.fieldPX fl66_0 rfl rfl) ?_
                refine RunT.gt0 (x := .v (.int .i64 a1.Size)) rfl rfl rfl (bo g305) rfl rfl (.loadP ty3 rfl rfl rfl) ?_
                refine RunT.gt0 (x := .v (.bool (!decide ((r197.1.length : Int) = a1.Size)))) rfl rfl rfl (bo g305) rfl rfl (.bin rfl rfl (fun w => b_neq w) rfl) ?_
                refine RunT.ot0 (x := .v (.bool (!decide ((r197.1.length : Int) = a1.Size)))) rfl rfl rfl rfl (.pickT (bo g305) rfl) ?_
                refine RunT.nil ?_
                refine T.cond2 (t := !decide ((r197.1.length : Int) = a1.Size)) rfl (fun c306 => ?_) (fun c306 => ?_)
                · replace H := ct H c306
                  refine T.seq ?_
                  refine T.region ?_
                  refine RunT.ot0 (x := .v (.bool false)) rfl rfl rfl rfl (.assignX rfl) ?_
                  refine RunT.nil ?_
                  obtain rfl := si H
                  have HX := exr HO189
                  obtain rfl := si HX
                  refine T.sub (sub_to (st' := ⟨[(10, .v (.bool false))], [], 8, []⟩) [] (by decide) rfl rfl (⟨⟨_, rfl, .one .v⟩, trivial⟩) (trivial)) ?_
                  refine T.ret ?_
                  exact RetOk.same [.v (.bool false)] ⟨rfl, trivial⟩ rfl rfl rfl
                · replace H := cf H c306
                  refine T.skip ?_
                  refine T.draw (wr := []) mixed rfl rfl ?_ rfl
                  refine RunD.ot0 (x := .v (.int .i64 v191)) rfl rfl rfl rfl (.moveX rfl) rfl ?_
                  refine RunD.ot0 (x := .v (.int .u64 (IntKind.u64.wrap v191))) rfl rfl rfl rfl (.conv rfl (fun w => c_int w ⟨_, Try.underlying3⟩ Try.underlying41) rfl) rfl ?_
                  refine RunD.ot0 (x := .ptr 0 0) rfl rfl rfl rfl (.fieldPX fl26_0 rfl rfl) rfl ?_
                  refine RunD.ot0 (x := .lst (List.map eSeat a0.Seats)) rfl rfl rfl rfl (.loadP ty22 rfl rfl rfl) rfl ?_
                  refine RunD.ot0 (x := .v (.int .i64 (a0.Seats.length : Int))) rfl rfl rfl rfl (.lenLm Try.underlying22 rfl rfl) rfl ?_
                  refine RunD.ot0 (x := .v (.int .i64 (wr ((a0.Seats.length : Int) + 1)))) rfl rfl rfl rfl (.bin rfl rfl (fun w => b_addw w) rfl) rfl ?_
                  refine RunD.ot0 (x := .v (.int .u64 (IntKind.u64.wrap (wr ((a0.Seats.length : Int) + 1))))) rfl rfl rfl rfl (.conv rfl (fun w => c_int w ⟨_, Try.underlying3⟩ Try.underlying41) rfl) rfl ?_
                  obtain ⟨h309, H⟩ := gs H
                  refine RunD.ot0 (x := .v (.int .u64 ((IntKind.u64.wrap v191).tmod (IntKind.u64.wrap (wr ((a0.Seats.length : Int) + 1)))))) rfl rfl rfl rfl (.bin rfl rfl (fun w => b_rem w (of_decide_eq_true h309)) rfl) rfl ?_
                  refine RunD.ot0 (x := .v (.int .i64 (wr ((IntKind.u64.wrap v191).tmod (IntKind.u64.wrap (wr ((a0.Seats.length : Int) + 1))))))) rfl rfl rfl rfl (.conv rfl (fun w => c_intw w ⟨_, Try.underlying41⟩ Try.underlying3) rfl) rfl ?_
                  refine RunD.ot0 (x := .v (.int .i64 v192)) rfl rfl rfl rfl (.moveX rfl) rfl ?_
                  refine RunD.ot0 (x := .v (.int .u64 (IntKind.u64.wrap v192))) rfl rfl rfl rfl (.conv rfl (fun w => c_int w ⟨_, Try.underlying3⟩ Try.underlying41) rfl) rfl ?_
                  refine RunD.ot0 (x := .ptr 0 0) rfl rfl rfl rfl (.fieldPX fl26_0 rfl rfl) rfl ?_
                  refine RunD.ot0 (x := .lst (List.map eSeat a0.Seats)) rfl rfl rfl rfl (.loadP ty22 rfl rfl rfl) rfl ?_
                  refine RunD.ot0 (x := .v (.int .i64 (a0.Seats.length : Int))) rfl rfl rfl rfl (.lenLm Try.underlying22 rfl rfl) rfl ?_
                  refine RunD.ot0 (x := .v (.int .i64 (wr ((a0.Seats.length : Int) + 1)))) rfl rfl rfl rfl (.bin rfl rfl (fun w => b_addw w) rfl) rfl ?_
                  refine RunD.ot0 (x := .v (.int .u64 (IntKind.u64.wrap (wr ((a0.Seats.length : Int) + 1))))) rfl rfl rfl rfl (.conv rfl (fun w => c_int w ⟨_, Try.underlying3⟩ Try.underlying41) rfl) rfl ?_
                  obtain ⟨h310, H⟩ := gs H
                  refine RunD.ot0 (x := .v (.int .u64 ((IntKind.u64.wrap v192).tmod (IntKind.u64.wrap (wr ((a0.Seats.length : Int) + 1)))))) rfl rfl rfl rfl (.bin rfl rfl (fun w => b_rem w (of_decide_eq_true h310)) rfl) rfl ?_
                  refine RunD.ot0 (x := .v (.int .i64 (wr ((IntKind.u64.wrap v192).tmod (IntKind.u64.wrap (wr ((a0.Seats.length : Int) + 1))))))) rfl rfl rfl rfl (.conv rfl (fun w => c_intw w ⟨_, Try.underlying41⟩ Try.underlying3) rfl) rfl ?_
                  refine RunD.ot0 (x := .v (.int .i64 (wr ((IntKind.u64.wrap v191).tmod (IntKind.u64.wrap (wr ((a0.Seats.length : Int) + 1))))))) rfl rfl rfl rfl (.assignX rfl) rfl ?_
                  refine RunD.ot0 (x := .v (.int .i64 (wr ((IntKind.u64.wrap v192).tmod (IntKind.u64.wrap (wr ((a0.Seats.length : Int) + 1))))))) rfl rfl rfl rfl (.assignX rfl) rfl ?_
                  refine RunD.nil (by kernel_rfl) ⟨rfl, rfl, ?_⟩
                  refine T.sub (sub_pick [3, 4, 5, 6, 7, 11] [0, 1, 2] (st' := ⟨[(3, .v (.int .i64 (wr ((IntKind.u64.wrap v191).tmod (IntKind.u64.wrap (wr ((a0.Seats.length : Int) + 1))))))), (4, .v (.int .i64 (wr ((IntKind.u64.wrap v192).tmod (IntKind.u64.wrap (wr ((a0.Seats.length : Int) + 1))))))), (5, .ptr 0 0), (6, .ptr 1 0), (7, .ptr 2 0), (11, .v (.int .i64 v193))], [(0, some (.box [.lst (List.map eSeat a0.Seats), .v (.int .i64 a0.Gap), .v (.int .i64 a0.Radius), .lst (List.map eI a0.Kills), .lst (List.map ePole a0.Poles)])), (1, some (.box [.v (.int .i64 a1.Size), .v (.int .i64 a1.Wheels)])), (2, some (.box [.v (.int .i64 a2.Size), .v (.int .i64 a2.Wheels)]))], 168, []⟩) rfl rfl rfl rfl rfl) ?_
                  refine T.region ?_
                  refine RunT.ot0 (x := .v (.int .i64 v193)) rfl rfl rfl rfl (.moveX rfl) ?_
                  refine RunT.ot0 (x := .v (.int .i64 (wr (v193 + 1)))) rfl rfl rfl rfl (.bin rfl rfl (fun w => b_addw w) rfl) ?_
                  refine RunT.ot0 (x := .v (.int .i64 (wr (v193 + 1)))) rfl rfl rfl rfl (.assignX rfl) ?_
                  refine RunT.nil ?_
                  exact ⟨n, Nat.lt_succ_self n, _, ⟨wr ((IntKind.u64.wrap v191).tmod (IntKind.u64.wrap (wr ((a0.Seats.length : Int) + 1)))), wr ((IntKind.u64.wrap v192).tmod (IntKind.u64.wrap (wr ((a0.Seats.length : Int) + 1)))), wr (v193 + 1), H, rfl⟩, (sub_to [some 0, some 1, some 2] (by decide) rfl rfl (⟨⟨_, rfl, .one .v⟩, ⟨⟨_, rfl, .one .v⟩, ⟨⟨_, rfl, .one (.ptr rfl)⟩, ⟨⟨_, rfl, .one (.ptr rfl)⟩, ⟨⟨_, rfl, .one (.ptr rfl)⟩, ⟨⟨_, rfl, .one .v⟩, trivial⟩⟩⟩⟩⟩⟩) (⟨⟨rfl, .inl ⟨_, _, rfl, rfl, .box ⟨.lst, .v, .v, .lst, .lst, trivial⟩⟩⟩, ⟨⟨rfl, .inl ⟨_, _, rfl, rfl, .box ⟨.v, .v, trivial⟩⟩⟩, ⟨⟨rfl, .inl ⟨_, _, rfl, rfl, .box ⟨.v, .v, trivial⟩⟩⟩, trivial⟩⟩⟩))⟩
              · replace H := cf H g305
                refine RunT.xn rfl rfl rfl (bo g305) rfl rfl ?_
                refine RunT.xn rfl rfl rfl (bo g305) rfl rfl ?_
                refine RunT.xn rfl rfl rfl (bo g305) rfl rfl ?_
                refine RunT.xn rfl rfl rfl (bo g305) rfl rfl ?_
                refine RunT.xn rfl rfl rfl (bo g305) rfl rfl ?_
                refine RunT.ot0 (x := .v (.bool false)) rfl rfl rfl rfl (.pickF (bo g305) rfl) ?_
                refine RunT.nil ?_
                refine T.condF rfl ?_
                refine T.skip ?_
                refine T.draw (wr := []) mixed rfl rfl ?_ rfl
                refine RunD.ot0 (x := .v (.int .i64 v191)) rfl rfl rfl rfl (.moveX rfl) rfl ?_
                refine RunD.ot0 (x := .v (.int .u64 (IntKind.u64.wrap v191))) rfl rfl rfl rfl (.conv rfl (fun w => c_int w ⟨_, Try.underlying3⟩ Try.underlying41) rfl) rfl ?_
                refine RunD.ot0 (x := .ptr 0 0) rfl rfl rfl rfl (.fieldPX fl26_0 rfl rfl) rfl ?_
                refine RunD.ot0 (x := .lst (List.map eSeat a0.Seats)) rfl rfl rfl rfl (.loadP ty22 rfl rfl rfl) rfl ?_
                refine RunD.ot0 (x := .v (.int .i64 (a0.Seats.length : Int))) rfl rfl rfl rfl (.lenLm Try.underlying22 rfl rfl) rfl ?_
                refine RunD.ot0 (x := .v (.int .i64 (wr ((a0.Seats.length : Int) + 1)))) rfl rfl rfl rfl (.bin rfl rfl (fun w => b_addw w) rfl) rfl ?_
                refine RunD.ot0 (x := .v (.int .u64 (IntKind.u64.wrap (wr ((a0.Seats.length : Int) + 1))))) rfl rfl rfl rfl (.conv rfl (fun w => c_int w ⟨_, Try.underlying3⟩ Try.underlying41) rfl) rfl ?_
                obtain ⟨h313, H⟩ := gs H
                refine RunD.ot0 (x := .v (.int .u64 ((IntKind.u64.wrap v191).tmod (IntKind.u64.wrap (wr ((a0.Seats.length : Int) + 1)))))) rfl rfl rfl rfl (.bin rfl rfl (fun w => b_rem w (of_decide_eq_true h313)) rfl) rfl ?_
                refine RunD.ot0 (x := .v (.int .i64 (wr ((IntKind.u64.wrap v191).tmod (IntKind.u64.wrap (wr ((a0.Seats.length : Int) + 1))))))) rfl rfl rfl rfl (.conv rfl (fun w => c_intw w ⟨_, Try.underlying41⟩ Try.underlying3) rfl) rfl ?_
                refine RunD.ot0 (x := .v (.int .i64 v192)) rfl rfl rfl rfl (.moveX rfl) rfl ?_
                refine RunD.ot0 (x := .v (.int .u64 (IntKind.u64.wrap v192))) rfl rfl rfl rfl (.conv rfl (fun w => c_int w ⟨_, Try.underlying3⟩ Try.underlying41) rfl) rfl ?_
                refine RunD.ot0 (x := .ptr 0 0) rfl rfl rfl rfl (.fieldPX fl26_0 rfl rfl) rfl ?_
                refine RunD.ot0 (x := .lst (List.map eSeat a0.Seats)) rfl rfl rfl rfl (.loadP ty22 rfl rfl rfl) rfl ?_
                refine RunD.ot0 (x := .v (.int .i64 (a0.Seats.length : Int))) rfl rfl rfl rfl (.lenLm Try.underlying22 rfl rfl) rfl ?_
                refine RunD.ot0 (x := .v (.int .i64 (wr ((a0.Seats.length : Int) + 1)))) rfl rfl rfl rfl (.bin rfl rfl (fun w => b_addw w) rfl) rfl ?_
                refine RunD.ot0 (x := .v (.int .u64 (IntKind.u64.wrap (wr ((a0.Seats.length : Int) + 1))))) rfl rfl rfl rfl (.conv rfl (fun w => c_int w ⟨_, Try.underlying3⟩ Try.underlying41) rfl) rfl ?_
                obtain ⟨h314, H⟩ := gs H
                refine RunD.ot0 (x := .v (.int .u64 ((IntKind.u64.wrap v192).tmod (IntKind.u64.wrap (wr ((a0.Seats.length : Int) + 1)))))) rfl rfl rfl rfl (.bin rfl rfl (fun w => b_rem w (of_decide_eq_true h314)) rfl) rfl ?_
                refine RunD.ot0 (x := .v (.int .i64 (wr ((IntKind.u64.wrap v192).tmod (IntKind.u64.wrap (wr ((a0.Seats.length : Int) + 1))))))) rfl rfl rfl rfl (.conv rfl (fun w => c_intw w ⟨_, Try.underlying41⟩ Try.underlying3) rfl) rfl ?_
                refine RunD.ot0 (x := .v (.int .i64 (wr ((IntKind.u64.wrap v191).tmod (IntKind.u64.wrap (wr ((a0.Seats.length : Int) + 1))))))) rfl rfl rfl rfl (.assignX rfl) rfl ?_
                refine RunD.ot0 (x := .v (.int .i64 (wr ((IntKind.u64.wrap v192).tmod (IntKind.u64.wrap (wr ((a0.Seats.length : Int) + 1))))))) rfl rfl rfl rfl (.assignX rfl) rfl ?_
                refine RunD.nil (by kernel_rfl) ⟨rfl, rfl, ?_⟩
                refine T.sub (sub_pick [3, 4, 5, 6, 7, 11] [0, 1, 2] (st' := ⟨[(3, .v (.int .i64 (wr ((IntKind.u64.wrap v191).tmod (IntKind.u64.wrap (wr ((a0.Seats.length : Int) + 1))))))), (4, .v (.int .i64 (wr ((IntKind.u64.wrap v192).tmod (IntKind.u64.wrap (wr ((a0.Seats.length : Int) + 1))))))), (5, .ptr 0 0), (6, .ptr 1 0), (7, .ptr 2 0), (11, .v (.int .i64 v193))], [(0, some (.box [.lst (List.map eSeat a0.Seats), .v (.int .i64 a0.Gap), .v (.int .i64 a0.Radius), .lst (List.map eI a0.Kills), .lst (List.map ePole a0.Poles)])), (1, some (.box [.v (.int .i64 a1.Size), .v (.int .i64 a1.Wheels)])), (2, some (.box [.v (.int .i64 a2.Size), .v (.int .i64 a2.Wheels)]))], 168, []⟩) rfl rfl rfl rfl rfl) ?_
                refine T.region ?_
                refine RunT.ot0 (x := .v (.int .i64 v193)) rfl rfl rfl rfl (.moveX rfl) ?_
                refine RunT.ot0 (x := .v (.int .i64 (wr (v193 + 1)))) rfl rfl rfl rfl (.bin rfl rfl (fun w => b_addw w) rfl) ?_
                refine RunT.ot0 (x := .v (.int .i64 (wr (v193 + 1)))) rfl rfl rfl rfl (.assignX rfl) ?_
                refine RunT.nil ?_
                exact ⟨n, Nat.lt_succ_self n, _, ⟨wr ((IntKind.u64.wrap v191).tmod (IntKind.u64.wrap (wr ((a0.Seats.length : Int) + 1)))), wr ((IntKind.u64.wrap v192).tmod (IntKind.u64.wrap (wr ((a0.Seats.length : Int) + 1)))), wr (v193 + 1), H, rfl⟩, (sub_to [some 0, some 1, some 2] (by decide) rfl rfl (⟨⟨_, rfl, .one .v⟩, ⟨⟨_, rfl, .one .v⟩, ⟨⟨_, rfl, .one (.ptr rfl)⟩, ⟨⟨_, rfl, .one (.ptr rfl)⟩, ⟨⟨_, rfl, .one (.ptr rfl)⟩, ⟨⟨_, rfl, .one .v⟩, trivial⟩⟩⟩⟩⟩⟩) (⟨⟨rfl, .inl ⟨_, _, rfl, rfl, .box ⟨.lst, .v, .v, .lst, .lst, trivial⟩⟩⟩, ⟨⟨rfl, .inl ⟨_, _, rfl, rfl, .box ⟨.v, .v, trivial⟩⟩⟩, ⟨⟨rfl, .inl ⟨_, _, rfl, rfl, .box ⟨.v, .v, trivial⟩⟩⟩, trivial⟩⟩⟩))⟩
      · replace H := cf H c194
        refine T.exit ?_
        obtain rfl := si H
        exact ⟨_, rfl, (sub_to [] (by decide) rfl rfl (trivial) (trivial))⟩
    · intro v190 s hR hS
      subst hR
      have H := exg HO189
      refine T.sub hS ?_
      refine T.seq ?_
      refine T.region ?_
      obtain ⟨r315, h316, H⟩ := bs H
      refine RunT.ot0 (x := .v (.bool r315)) rfl rfl rfl rfl (.callp (law11_told_pc false k  r315 h316) rfl trivial rfl rfl rfl) ?_
      refine RunT.ot0 (x := .v (.bool r315)) rfl rfl rfl rfl (.assignX rfl) ?_
      refine RunT.nil ?_
      obtain rfl := si H
      refine T.sub (sub_to (st' := ⟨[(10, .v (.bool r315))], [], 8, []⟩) [] (by decide) rfl rfl (⟨⟨_, rfl, .one .v⟩, trivial⟩) (trivial)) ?_
      refine T.ret ?_
      exact RetOk.same [.v (.bool r315)] ⟨rfl, trivial⟩ rfl rfl rfl
end Go.Proofs.Ytlfpkjlaajfjnaa
