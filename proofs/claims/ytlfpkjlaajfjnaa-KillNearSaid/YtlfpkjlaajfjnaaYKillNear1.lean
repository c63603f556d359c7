/- The Go functions come to just what their plain forms come to: one contract each. -/
import Derived.Test.YtlfpkjlaajfjnaaYKillNear0
set_option linter.unusedVariables false
set_option linter.unusedSimpArgs false
set_option maxRecDepth 100000
namespace Go.Proofs.Ytlfpkjlaajfjnaa
open Go Go.Sh Go.Px
attribute [local irreducible] Go.Sh.T Go.Sh.RunT Go.Sh.RunD
set_option maxHeartbeats 4000000 in
theorem law3_Make_pc (al : Bool) (k : Nat) (a0 : (List Int)) (a1 : Int) (o : Venue) (H : law3_Make k a0 a1 = some o) : PC Try.prog al 40 [.lst (List.map eI a0), .v (.int .i64 a1)] (.agg [.frs 4 (List.map eSeat o.Seats), .v (.int .i64 o.Gap), .v (.int .i64 o.Radius), .frs 1 (List.map eI o.Kills), .frs 3 (List.map ePole o.Poles)]) := by
  unfold law3_Make at H
  refine PC.of_T Try.func40 rfl rfl (n := 106) rfl rfl (.inr (flatC_agg ⟨(flat1_frs (sz := 4) fl_Seat), rfl, rfl, (flat1_frs (sz := 1) fl_I), (flat1_frs (sz := 3) fl_Pole), trivial⟩)) ?_
  intro base B w0
  refine T.st (st' := ⟨[(0, .lst (List.map eI a0)), (1, .v (.int .i64 a1))], [], 0, []⟩) rfl ?_
  refine T.seq ?_
  refine T.region ?_
  refine RunT.ot1 (x := .ptr 0 0) (p0 := (0, some (.box [.v (.slice none 0 0), .v (.int .i64 0), .v (.int .i64 0), .v (.slice none 0 0), .v (.slice none 0 0)]))) (n' := 8) rfl rfl rfl rfl (.allocX in26.zero rfl rfl) rfl ?_
  refine RunT.nil ?_
  refine T.seq ?_
  refine T.region ?_
  refine RunT.ot0 (x := .agg [.v (.int .i64 0), .v (.int .i64 0), .v (.int .i64 0), .v (.int .i64 0)]) rfl rfl rfl rfl (.bu bu28 rfl) ?_
  refine RunT.ot1 (x := .own 8 0 (([Seat.mk 0 0 0 0]).length)) (p0 := (8, some (.arr false 4 (List.map eSeat [Seat.mk 0 0 0 0])))) (n' := 16) rfl rfl rfl rfl (.bslicem (d := false) (l := [Seat.mk 0 0 0 0]) (f := eSeat) sl22 rfl rfl rfl enc_Seat rfl) rfl ?_
  refine RunT.ot0 (x := .agg [.own 8 0 (([Seat.mk 0 0 0 0]).length), .v (.int .i64 10), .v (.int .i64 0), .v (.slice none 0 0), .v (.slice none 0 0)]) rfl rfl rfl rfl (.bu bu26 rfl) ?_
  refine RunT.ot1 (x := .ptr 16 0) (p0 := (16, some (.box [.v (.slice none 0 0), .v (.int .i64 0), .v (.int .i64 0), .v (.slice none 0 0), .v (.slice none 0 0)]))) (n' := 24) rfl rfl rfl rfl (.allocX in26.zero rfl rfl) rfl ?_
  refine RunT.on1 (x := .junk) (p0 := (16, some (.box [.own 8 0 (([Seat.mk 0 0 0 0]).length), .v (.int .i64 10), .v (.int .i64 0), .v (.slice none 0 0), .v (.slice none 0 0)]))) (n' := 32) rfl rfl rfl (.storePX ty26 rfl rfl rfl rfl rfl rfl rfl) rfl ?_
  refine RunT.nil ?_
  refine T.seq ?_
  refine T.region ?_
  refine RunT.ot0 (x := .v (.int .i64 0)) rfl rfl rfl rfl (.assignX rfl) ?_
  refine RunT.ot0 (x := .v (.int .i64 0)) rfl rfl rfl rfl (.assignX rfl) ?_
  refine RunT.nil ?_
  refine T.seq ?_
  refine T.seq ?_
  refine T.region ?_
  refine RunT.ot0 (x := .v (.int .i64 0)) rfl rfl rfl rfl (.assignX rfl) ?_
  refine RunT.nil ?_
  obtain ⟨o88, E89, HO90⟩ := bs H
  refine T.cutE (⟨[(4, .ptr 0 0), (5, .ptr 1 0)], [(0, some (.box [.v (.slice none 0 0), .v (.int .i64 0), .v (.int .i64 0), .v (.slice none 0 0), .v (.slice none 0 0)])), (1, some (.box [.own 2 0 o88.1.length, .v (.int .i64 10), .v (.int .i64 o88.2.1), .own 3 0 o88.2.2.1.length, .own 4 0 o88.2.2.2.length])), (2, some (.arr false 4 (List.map eSeat o88.1))), (3, some (.arr false 1 (List.map eI o88.2.2.1))), (4, some (.arr false 3 (List.map ePole o88.2.2.2)))], 8, []⟩) ?_ ?_
  · have H := E89
    refine T.block ?_
    refine T.loopS (fun n s => ∃ (v91 : (List Seat)) (v92 : Int) (v93 : (List Int)) (v94 : (List Pole)) (v95 : Int) (v96 : Int) (v97 : Int), law3_Make_l0 k a0 a1 n v91 v92 v93 v94 v95 v96 v97 = some o88 ∧ s = ⟨[(0, .lst (List.map eI a0)), (1, .v (.int .i64 a1)), (4, .ptr 0 0), (5, .ptr 1 0), (6, .v (.int .i64 v95)), (7, .v (.int .i64 v96)), (8, .v (.int .i64 v97))], [(0, some (.box [.v (.slice none 0 0), .v (.int .i64 0), .v (.int .i64 0), .v (.slice none 0 0), .v (.slice none 0 0)])), (1, some (.box [.own 2 0 v91.length, .v (.int .i64 10), .v (.int .i64 v92), .own 3 0 v93.length, .own 4 0 v94.length])), (2, some (.arr false 4 (List.map eSeat v91))), (3, some (.arr false 1 (List.map eI v93))), (4, some (.arr false 3 (List.map ePole v94)))], 8, []⟩) k ⟨_, ⟨[Seat.mk 0 0 0 0], 0, [], [], 0, 0, 0, H, rfl⟩, sub_to [some 0, some 16, some 8, none, none] (by decide) rfl rfl (⟨⟨_, rfl, .one .lst⟩, ⟨⟨_, rfl, .one .v⟩, ⟨⟨_, rfl, .one (.ptr rfl)⟩, ⟨⟨_, rfl, .one (.ptr rfl)⟩, ⟨⟨_, rfl, .one .v⟩, ⟨⟨_, rfl, .one .v⟩, ⟨⟨_, rfl, .one .v⟩, trivial⟩⟩⟩⟩⟩⟩⟩) (⟨⟨rfl, .inl ⟨_, _, rfl, rfl, .box ⟨.v, .v, .v, .v, .v, trivial⟩⟩⟩, ⟨⟨rfl, .inl ⟨_, _, rfl, rfl, .box ⟨(.own rfl), .v, .v, .nilO, .nilO, trivial⟩⟩⟩, ⟨⟨rfl, .inl ⟨_, _, rfl, rfl, .arr rfl⟩⟩, ⟨⟨rfl, .inr ⟨rfl, false, _, rfl, (by decide)⟩⟩, ⟨⟨rfl, .inr ⟨rfl, false, _, rfl, (by decide)⟩⟩, trivial⟩⟩⟩⟩⟩)⟩ ?_
    rintro n s ⟨v91, v92, v93, v94, v95, v96, v97, H, rfl⟩
    rcases n with _ | n
    · cases (show none = some _ from H)
    rw [law3_Make_l0] at H
    refine T.seq ?_
    obtain ⟨o99, E100, HO101⟩ := bs H
    refine T.cut (⟨[(0, .lst (List.map eI a0)), (1, .v (.int .i64 a1)), (4, .ptr 0 0), (5, .ptr 1 0), (6, .v (.int .i64 v95)), (7, .v (.int .i64 v96)), (8, .v (.int .i64 v97)), (24, .v (.bool o99))], [(0, some (.box [.v (.slice none 0 0), .v (.int .i64 0), .v (.int .i64 0), .v (.slice none 0 0), .v (.slice none 0 0)])), (1, some (.box [.own 2 0 v91.length, .v (.int .i64 10), .v (.int .i64 v92), .own 3 0 v93.length, .own 4 0 v94.length])), (2, some (.arr false 4 (List.map eSeat v91))), (3, some (.arr false 1 (List.map eI v93))), (4, some (.arr false 3 (List.map ePole v94)))], 8, []⟩) ?_ ?_
    · have H := E100
      refine T.sub (sub_pick [0, 1, 4, 5, 6, 7, 8] [0, 1, 2, 3, 4] (st' := ⟨[(0, .lst (List.map eI a0)), (1, .v (.int .i64 a1)), (4, .ptr 0 0), (5, .ptr 1 0), (6, .v (.int .i64 v95)), (7, .v (.int .i64 v96)), (8, .v (.int .i64 v97))], [(0, some (.box [.v (.slice none 0 0), .v (.int .i64 0), .v (.int .i64 0), .v (.slice none 0 0), .v (.slice none 0 0)])), (1, some (.box [.own 2 0 v91.length, .v (.int .i64 10), .v (.int .i64 v92), .own 3 0 v93.length, .own 4 0 v94.length])), (2, some (.arr false 4 (List.map eSeat v91))), (3, some (.arr false 1 (List.map eI v93))), (4, some (.arr false 3 (List.map ePole v94)))], 8, []⟩) rfl rfl rfl rfl rfl) ?_
      refine T.region ?_
      refine RunT.ot0 (x := .v (.int .i64 v97)) rfl rfl rfl rfl (.moveX rfl) ?_
      refine RunT.ot0 (x := .lst (List.map eI a0)) rfl rfl rfl rfl (.moveX rfl) ?_
      refine RunT.ot0 (x := .v (.int .i64 (a0.length : Int))) rfl rfl rfl rfl (.lenLm Try.underlying23 rfl rfl) ?_
      refine RunT.ot0 (x := .v (.bool (decide (v97 < (a0.length : Int))))) rfl rfl rfl rfl (.bin rfl rfl (fun w => b_lss w) rfl) ?_
      refine RunT.ot0 (x := .v (.bool (decide (v97 < (a0.length : Int))))) rfl rfl rfl rfl (.moveX rfl) ?_
      refine RunT.cases (t := 18) (c := decide (v97 < (a0.length : Int))) rfl (fun g102 => ?_) (fun g102 => ?_)
      · replace H := ct H g102
        refine RunT.gt0 (x := .ptr 1 0) rfl rfl rfl (bo g102) rfl rfl (.fieldPX fl26_0 rfl rfl) ?_
        refine RunT.gt0 (x := .own 2 0 v91.length) rfl rfl rfl (bo g102) rfl rfl (.loadP ty22 rfl rfl rfl) ?_
        refine RunT.gt0 (x := .v (.int .i64 (v91.length : Int))) rfl rfl rfl (bo g102) rfl rfl (.lenON rfl Try.underlying22 rfl rfl) ?_
        refine RunT.gt0 (x := .v (.int .i64 a1)) rfl rfl rfl (bo g102) rfl rfl (.moveX rfl) ?_
        refine RunT.gt0 (x := .v (.bool (decide ((v91.length : Int) < a1)))) rfl rfl rfl (bo g102) rfl rfl (.bin rfl rfl (fun w => b_lss w) rfl) ?_
        refine RunT.ot0 (x := .v (.bool (decide ((v91.length : Int) < a1)))) rfl rfl rfl rfl (.pickT (bo g102) rfl) ?_
        refine RunT.nil ?_
        obtain rfl := si H
        exact (sub_to [some 0, some 1, some 2, some 3, some 4] (by decide) rfl rfl (⟨⟨_, rfl, .one .lst⟩, ⟨⟨_, rfl, .one .v⟩, ⟨⟨_, rfl, .one (.ptr rfl)⟩, ⟨⟨_, rfl, .one (.ptr rfl)⟩, ⟨⟨_, rfl, .one .v⟩, ⟨⟨_, rfl, .one .v⟩, ⟨⟨_, rfl, .one .v⟩, ⟨⟨_, rfl, .one .v⟩, trivial⟩⟩⟩⟩⟩⟩⟩⟩) (⟨⟨rfl, .inl ⟨_, _, rfl, rfl, .box ⟨.v, .v, .v, .v, .v, trivial⟩⟩⟩, ⟨⟨rfl, .inl ⟨_, _, rfl, rfl, .box ⟨(.own rfl), .v, .v, (.own rfl), (.own rfl), trivial⟩⟩⟩, ⟨⟨rfl, .inl ⟨_, _, rfl, rfl, .arr rfl⟩⟩, ⟨⟨rfl, .inl ⟨_, _, rfl, rfl, .arr rfl⟩⟩, ⟨⟨rfl, .inl ⟨_, _, rfl, rfl, .arr rfl⟩⟩, trivial⟩⟩⟩⟩⟩))
      · replace H := cf H g102
        refine RunT.xn rfl rfl rfl (bo g102) rfl rfl ?_
        refine RunT.xn rfl rfl rfl (bo g102) rfl rfl ?_
        refine RunT.xn rfl rfl rfl (bo g102) rfl rfl ?_
        refine RunT.xn rfl rfl rfl (bo g102) rfl rfl ?_
        refine RunT.xn rfl rfl rfl (bo g102) rfl rfl ?_
        refine RunT.ot0 (x := .v (.bool false)) rfl rfl rfl rfl (.pickF (bo g102) rfl) ?_
        refine RunT.nil ?_
        obtain rfl := si H
        exact (sub_to [some 0, some 1, some 2, some 3, some 4] (by decide) rfl rfl (⟨⟨_, rfl, .one .lst⟩, ⟨⟨_, rfl, .one .v⟩, ⟨⟨_, rfl, .one (.ptr rfl)⟩, ⟨⟨_, rfl, .one (.ptr rfl)⟩, ⟨⟨_, rfl, .one .v⟩, ⟨⟨_, rfl, .one .v⟩, ⟨⟨_, rfl, .one .v⟩, ⟨⟨_, rfl, .one .v⟩, trivial⟩⟩⟩⟩⟩⟩⟩⟩) (⟨⟨rfl, .inl ⟨_, _, rfl, rfl, .box ⟨.v, .v, .v, .v, .v, trivial⟩⟩⟩, ⟨⟨rfl, .inl ⟨_, _, rfl, rfl, .box ⟨(.own rfl), .v, .v, (.own rfl), (.own rfl), trivial⟩⟩⟩, ⟨⟨rfl, .inl ⟨_, _, rfl, rfl, .arr rfl⟩⟩, ⟨⟨rfl, .inl ⟨_, _, rfl, rfl, .arr rfl⟩⟩, ⟨⟨rfl, .inl ⟨_, _, rfl, rfl, .arr rfl⟩⟩, trivial⟩⟩⟩⟩⟩))
    · have H := HO101
      refine T.cond2 (t := o99) rfl (fun c103 => ?_) (fun c103 => ?_)
      · replace H := ct H c103
        refine T.skip ?_
        refine T.seq ?_
        refine T.block ?_
        refine T.seq ?_
        refine T.region ?_
        refine RunT.ot0 (x := .lst (List.map eI a0)) rfl rfl rfl rfl (.moveX rfl) ?_
        refine RunT.ot0 (x := .v (.int .i64 v97)) rfl rfl rfl rfl (.moveX rfl) ?_
        obtain ⟨y104, h105, H⟩ := bs H
        refine RunT.ot0 (x := .rptr [.v (.int .i64 y104)]) rfl rfl rfl rfl (.idxLX h105 enc_I sl23 rfl rfl rfl) ?_
        refine RunT.ot0 (x := .v (.int .i64 y104)) rfl rfl rfl rfl (.loadR ty3 rfl rfl) ?_
        refine RunT.ot0 (x := .v (.int .u64 (IntKind.u64.wrap y104))) rfl rfl rfl rfl (.conv rfl (fun w => c_int w ⟨_, Try.underlying3⟩ Try.underlying41) rfl) ?_
        refine RunT.ot0 (x := .v (.int .u64 (IntKind.u64.wrap y104))) rfl rfl rfl rfl (.assignX rfl) ?_
        refine RunT.nil ?_
        refine T.seq ?_
        refine T.sub (sub_pick [0, 1, 4, 5, 6, 7, 8, 9] [0, 1, 2, 3, 4] (st' := ⟨[(0, .lst (List.map eI a0)), (1, .v (.int .i64 a1)), (4, .ptr 0 0), (5, .ptr 1 0), (6, .v (.int .i64 v95)), (7, .v (.int .i64 v96)), (8, .v (.int .i64 v97)), (9, .v (.int .u64 (IntKind.u64.wrap y104)))], [(0, some (.box [.v (.slice none 0 0), .v (.int .i64 0), .v (.int .i64 0), .v (.slice none 0 0), .v (.slice none 0 0)])), (1, some (.box [.own 2 0 v91.length, .v (.int .i64 10), .v (.int .i64 v92), .own 3 0 v93.length, .own 4 0 v94.length])), (2, some (.arr false 4 (List.map eSeat v91))), (3, some (.arr false 1 (List.map eI v93))), (4, some (.arr false 3 (List.map ePole v94)))], 8, []⟩) rfl rfl rfl rfl rfl) ?_
        refine T.region ?_
        refine RunT.ot0 (x := .v (.int .i64 v96)) rfl rfl rfl rfl (.moveX rfl) ?_
        refine RunT.ot0 (x := .v (.int .i64 (wr (v96 + 10)))) rfl rfl rfl rfl (.bin rfl rfl (fun w => b_addw w) rfl) ?_
        refine RunT.ot0 (x := .v (.int .i64 (wr (v96 + 10)))) rfl rfl rfl rfl (.assignX rfl) ?_
        refine RunT.nil ?_
        refine T.seq ?_
        refine T.seq ?_
        refine T.region ?_
        refine RunT.ot0 (x := .v (.int .u64 (IntKind.u64.wrap y104))) rfl rfl rfl rfl (.moveX rfl) ?_
        refine RunT.ot0 (x := .v (.int .u64 ((IntKind.u64.wrap y104).tmod 7))) rfl rfl rfl rfl (.bin rfl rfl (fun w => b_rem w (by decide)) rfl) ?_
        refine RunT.nil ?_
        refine T.block ?_
        refine T.seq ?_
        refine T.region ?_
        refine RunT.ot0 (x := .v (.bool (decide (((IntKind.u64.wrap y104).tmod 7) = 0)))) rfl rfl rfl rfl (.bin rfl rfl (fun w => b_eql w) rfl) ?_
        refine RunT.ot0 (x := .v (.bool (decide (((IntKind.u64.wrap y104).tmod 7) = 0)))) rfl rfl rfl rfl (.assignX rfl) ?_
        refine RunT.nil ?_
        obtain ⟨o108, E109, HO110⟩ := bs H
        refine T.cutE (⟨[(0, .lst (List.map eI a0)), (1, .v (.int .i64 a1)), (4, .ptr 0 0), (5, .ptr 1 0), (6, .v (.int .i64 o108.1)), (7, .v (.int .i64 o108.2)), (8, .v (.int .i64 v97)), (9, .v (.int .u64 (IntKind.u64.wrap y104)))], [(0, some (.box [.v (.slice none 0 0), .v (.int .i64 0), .v (.int .i64 0), .v (.slice none 0 0), .v (.slice none 0 0)])), (1, some (.box [.own 2 0 v91.length, .v (.int .i64 10), .v (.int .i64 v92), .own 3 0 v93.length, .own 4 0 v94.length])), (2, some (.arr false 4 (List.map eSeat v91))), (3, some (.arr false 1 (List.map eI v93))), (4, some (.arr false 3 (List.map ePole v94)))], 8, []⟩) ?_ ?_
        · have H := E109
          refine T.cond2 (t := decide (((IntKind.u64.wrap y104).tmod 7) = 0)) rfl (fun c111 => ?_) (fun c111 => ?_)
          · replace H := ct H c111
            refine T.sub (sub_pick [0, 1, 4, 5, 6, 8, 9] [0, 1, 2, 3, 4] (st' := ⟨[(0, .lst (List.map eI a0)), (1, .v (.int .i64 a1)), (4, .ptr 0 0), (5, .ptr 1 0), (6, .v (.int .i64 v95)), (8, .v (.int .i64 v97)), (9, .v (.int .u64 (IntKind.u64.wrap y104)))], [(0, some (.box [.v (.slice none 0 0), .v (.int .i64 0), .v (.int .i64 0), .v (.slice none 0 0), .v (.slice none 0 0)])), (1, some (.box [.own 2 0 v91.length, .v (.int .i64 10), .v (.int .i64 v92), .own 3 0 v93.length, .own 4 0 v94.length])), (2, some (.arr false 4 (List.map eSeat v91))), (3, some (.arr false 1 (List.map eI v93))), (4, some (.arr false 3 (List.map ePole v94)))], 8, []⟩) rfl rfl rfl rfl rfl) ?_
            refine T.region ?_
            refine RunT.ot0 (x := .v (.int .i64 v95)) rfl rfl rfl rfl (.moveX rfl) ?_
            refine RunT.ot0 (x := .v (.int .i64 (wr (v95 + 1)))) rfl rfl rfl rfl (.bin rfl rfl (fun w => b_addw w) rfl) ?_
            refine RunT.ot0 (x := .v (.int .i64 (wr (v95 + 1)))) rfl rfl rfl rfl (.assignX rfl) ?_
            refine RunT.ot0 (x := .v (.int .i64 0)) rfl rfl rfl rfl (.assignX rfl) ?_
            refine RunT.nil ?_
            obtain rfl := si H
            exact (sub_to [some 0, some 1, some 2, some 3, some 4] (by decide) rfl rfl (⟨⟨_, rfl, .one .lst⟩, ⟨⟨_, rfl, .one .v⟩, ⟨⟨_, rfl, .one (.ptr rfl)⟩, ⟨⟨_, rfl, .one (.ptr rfl)⟩, ⟨⟨_, rfl, .one .v⟩, ⟨⟨_, rfl, .one .v⟩, ⟨⟨_, rfl, .one .v⟩, ⟨⟨_, rfl, .one .v⟩, trivial⟩⟩⟩⟩⟩⟩⟩⟩) (⟨⟨rfl, .inl ⟨_, _, rfl, rfl, .box ⟨.v, .v, .v, .v, .v, trivial⟩⟩⟩, ⟨⟨rfl, .inl ⟨_, _, rfl, rfl, .box ⟨(.own rfl), .v, .v, (.own rfl), (.own rfl), trivial⟩⟩⟩, ⟨⟨rfl, .inl ⟨_, _, rfl, rfl, .arr rfl⟩⟩, ⟨⟨rfl, .inl ⟨_, _, rfl, rfl, .arr rfl⟩⟩, ⟨⟨rfl, .inl ⟨_, _, rfl, rfl, .arr rfl⟩⟩, trivial⟩⟩⟩⟩⟩))
          · replace H := cf H c111
            refine T.seq ?_
            refine T.region ?_
            refine RunT.ot0 (x := .v (.bool (decide (((IntKind.u64.wrap y104).tmod 7) = 1)))) rfl rfl rfl rfl (.bin rfl rfl (fun w => b_eql w) rfl) ?_
            refine RunT.ot0 (x := .v (.bool (decide (((IntKind.u64.wrap y104).tmod 7) = 1)))) rfl rfl rfl rfl (.assignX rfl) ?_
            refine RunT.nil ?_
            refine T.cond2 (t := decide (((IntKind.u64.wrap y104).tmod 7) = 1)) rfl (fun c112 => ?_) (fun c112 => ?_)
            · replace H := ct H c112
              refine T.region ?_
              refine RunT.ot0 (x := .v (.int .i64 (wr (v96 + 10)))) rfl rfl rfl rfl (.moveX rfl) ?_
              refine RunT.ot0 (x := .v (.int .i64 (wr ((wr (v96 + 10)) + 5)))) rfl rfl rfl rfl (.bin rfl rfl (fun w => b_addw w) rfl) ?_
              refine RunT.ot0 (x := .v (.int .i64 (wr ((wr (v96 + 10)) + 5)))) rfl rfl rfl rfl (.assignX rfl) ?_
              refine RunT.nil ?_
              obtain rfl := si H
              exact (sub_to [some 0, some 1, some 2, some 3, some 4] (by decide) rfl rfl (⟨⟨_, rfl, .one .lst⟩, ⟨⟨_, rfl, .one .v⟩, ⟨⟨_, rfl, .one (.ptr rfl)⟩, ⟨⟨_, rfl, .one (.ptr rfl)⟩, ⟨⟨_, rfl, .one .v⟩, ⟨⟨_, rfl, .one .v⟩, ⟨⟨_, rfl, .one .v⟩, ⟨⟨_, rfl, .one .v⟩, trivial⟩⟩⟩⟩⟩⟩⟩⟩) (⟨⟨rfl, .inl ⟨_, _, rfl, rfl, .box ⟨.v, .v, .v, .v, .v, trivial⟩⟩⟩, ⟨⟨rfl, .inl ⟨_, _, rfl, rfl, .box ⟨(.own rfl), .v, .v, (.own rfl), (.own rfl), trivial⟩⟩⟩, ⟨⟨rfl, .inl ⟨_, _, rfl, rfl, .arr rfl⟩⟩, ⟨⟨rfl, .inl ⟨_, _, rfl, rfl, .arr rfl⟩⟩, ⟨⟨rfl, .inl ⟨_, _, rfl, rfl, .arr rfl⟩⟩, trivial⟩⟩⟩⟩⟩))
            · replace H := cf H c112
              refine T.skip ?_
              obtain rfl := si H
              exact (sub_to [some 0, some 1, some 2, some 3, some 4] (by decide) rfl rfl (⟨⟨_, rfl, .one .lst⟩, ⟨⟨_, rfl, .one .v⟩, ⟨⟨_, rfl, .one (.ptr rfl)⟩, ⟨⟨_, rfl, .one (.ptr rfl)⟩, ⟨⟨_, rfl, .one .v⟩, ⟨⟨_, rfl, .one .v⟩, ⟨⟨_, rfl, .one .v⟩, ⟨⟨_, rfl, .one .v⟩, trivial⟩⟩⟩⟩⟩⟩⟩⟩) (⟨⟨rfl, .inl ⟨_, _, rfl, rfl, .box ⟨.v, .v, .v, .v, .v, trivial⟩⟩⟩, ⟨⟨rfl, .inl ⟨_, _, rfl, rfl, .box ⟨(.own rfl), .v, .v, (.own rfl), (.own rfl), trivial⟩⟩⟩, ⟨⟨rfl, .inl ⟨_, _, rfl, rfl, .arr rfl⟩⟩, ⟨⟨rfl, .inl ⟨_, _, rfl, rfl, .arr rfl⟩⟩, ⟨⟨rfl, .inl ⟨_, _, rfl, rfl, .arr rfl⟩⟩, trivial⟩⟩⟩⟩⟩))
        · intro s hS
          have H := HO110
          refine T.sub hS ?_
          refine T.seq ?_
          refine T.region ?_
          refine RunT.ot0 (x := .v (.int .i64 o108.1)) rfl rfl rfl rfl (.moveX rfl) ?_
          refine RunT.ot0 (x := .v (.int .i64 o108.2)) rfl rfl rfl rfl (.moveX rfl) ?_
          refine RunT.ot0 (x := .v (.int .i64 o108.1)) rfl rfl rfl rfl (.moveX rfl) ?_
          refine RunT.ot0 (x := .v (.int .i64 (wr (10 * o108.1)))) rfl rfl rfl rfl (.bin rfl rfl (fun w => b_mulw w) rfl) ?_
          refine RunT.ot0 (x := .agg [.v (.int .i64 o108.1), .v (.int .i64 o108.2), .v (.int .i64 (wr (10 * o108.1))), .v (.int .i64 0)]) rfl rfl rfl rfl (.bu bu28 rfl) ?_
          refine RunT.ot1 (x := .ptr 8 0) (p0 := (8, some (.box [.v (.int .i64 0), .v (.int .i64 0), .v (.int .i64 0), .v (.int .i64 0)]))) (n' := 16) rfl rfl rfl rfl (.allocX in28.zero rfl rfl) rfl ?_
          refine RunT.on1 (x := .junk) (p0 := (8, some (.box [.v (.int .i64 o108.1), .v (.int .i64 o108.2), .v (.int .i64 (wr (10 * o108.1))), .v (.int .i64 0)]))) (n' := 24) rfl rfl rfl (.storePX ty28 rfl rfl rfl rfl rfl rfl rfl) rfl ?_
          refine RunT.nil ?_
          refine T.seq ?_
          refine T.seq ?_
          refine T.sub (sub_pick [0, 1, 4, 5, 6, 7, 8, 9, 10] [0, 1, 2, 3, 4, 8] (st' := ⟨[(0, .lst (List.map eI a0)), (1, .v (.int .i64 a1)), (4, .ptr 0 0), (5, .ptr 1 0), (6, .v (.int .i64 o108.1)), (7, .v (.int .i64 o108.2)), (8, .v (.int .i64 v97)), (9, .v (.int .u64 (IntKind.u64.wrap y104))), (10, .ptr 8 0)], [(0, some (.box [.v (.slice none 0 0), .v (.int .i64 0), .v (.int .i64 0), .v (.slice none 0 0), .v (.slice none 0 0)])), (1, some (.box [.own 2 0 v91.length, .v (.int .i64 10), .v (.int .i64 v92), .own 3 0 v93.length, .own 4 0 v94.length])), (2, some (.arr false 4 (List.map eSeat v91))), (3, some (.arr false 1 (List.map eI v93))), (4, some (.arr false 3 (List.map ePole v94))), (8, some (.box [.v (.int .i64 o108.1), .v (.int .i64 o108.2), .v (.int .i64 (wr (10 * o108.1))), .v (.int .i64 0)]))], 24, []⟩) rfl rfl rfl rfl rfl) ?_
          refine T.region ?_
          refine RunT.ot0 (x := .v (.int .u64 (IntKind.u64.wrap y104))) rfl rfl rfl rfl (.moveX rfl) ?_
          refine RunT.ot0 (x := .v (.int .u64 (IntKind.u64.wrap ((IntKind.u64.wrap y104).tdiv 7)))) rfl rfl rfl rfl (.bin rfl rfl (fun w => b_quo w (by decide)) rfl) ?_
          refine RunT.ot0 (x := .v (.int .u64 ((IntKind.u64.wrap ((IntKind.u64.wrap y104).tdiv 7)).tmod 6))) rfl rfl rfl rfl (.bin rfl rfl (fun w => b_rem w (by decide)) rfl) ?_
          refine RunT.nil ?_
          refine T.block ?_
          refine T.seq ?_
          refine T.region ?_
          refine RunT.ot0 (x := .v (.bool (decide (((IntKind.u64.wrap ((IntKind.u64.wrap y104).tdiv 7)).tmod 6) = 0)))) rfl rfl rfl rfl (.bin rfl rfl (fun w => b_eql w) rfl) ?_
          refine RunT.ot0 (x := .v (.bool (decide (((IntKind.u64.wrap ((IntKind.u64.wrap y104).tdiv 7)).tmod 6) = 0)))) rfl rfl rfl rfl (.assignX rfl) ?_
          refine RunT.nil ?_
          obtain ⟨o116, E117, HO118⟩ := bs H
          refine T.cutE (⟨[(0, .lst (List.map eI a0)), (1, .v (.int .i64 a1)), (4, .ptr 0 0), (5, .ptr 1 0), (6, .v (.int .i64 o108.1)), (7, .v (.int .i64 o108.2)), (8, .v (.int .i64 v97)), (9, .v (.int .u64 (IntKind.u64.wrap y104))), (10, .ptr 5 0)], [(0, some (.box [.v (.slice none 0 0), .v (.int .i64 0), .v (.int .i64 0), .v (.slice none 0 0), .v (.slice none 0 0)])), (1, some (.box [.own 2 0 v91.length, .v (.int .i64 10), .v (.int .i64 v92), .own 3 0 v93.length, .own 4 0 v94.length])), (2, some (.arr false 4 (List.map eSeat v91))), (3, some (.arr false 1 (List.map eI v93))), (4, some (.arr false 3 (List.map ePole v94))), (5, some (.box [.v (.int .i64 o108.1), .v (.int .i64 o108.2), .v (.int .i64 (wr (10 * o108.1))), .v (.int .i64 o116)]))], 8, []⟩) ?_ ?_
          · have H := E117
            refine T.cond2 (t := decide (((IntKind.u64.wrap ((IntKind.u64.wrap y104).tdiv 7)).tmod 6) = 0)) rfl (fun c119 => ?_) (fun c119 => ?_)
            · replace H := ct H c119
              refine T.region ?_
              refine RunT.ot0 (x := .ptr 8 3) rfl rfl rfl rfl (.fieldPX fl28_3 rfl rfl) ?_
              refine RunT.on1 (x := .junk) (p0 := (8, some (.box [.v (.int .i64 o108.1), .v (.int .i64 o108.2), .v (.int .i64 (wr (10 * o108.1))), .v (.int .i64 1)]))) (n' := 32) rfl rfl rfl (.storePX ty3 rfl rfl rfl rfl rfl rfl rfl) rfl ?_
              refine RunT.nil ?_
              obtain rfl := si H
              exact (sub_to [some 0, some 1, some 2, some 3, some 4, some 8] (by decide) rfl rfl (⟨⟨_, rfl, .one .lst⟩, ⟨⟨_, rfl, .one .v⟩, ⟨⟨_, rfl, .one (.ptr rfl)⟩, ⟨⟨_, rfl, .one (.ptr rfl)⟩, ⟨⟨_, rfl, .one .v⟩, ⟨⟨_, rfl, .one .v⟩, ⟨⟨_, rfl, .one .v⟩, ⟨⟨_, rfl, .one .v⟩, ⟨⟨_, rfl, .one (.ptr rfl)⟩, trivial⟩⟩⟩⟩⟩⟩⟩⟩⟩) (⟨⟨rfl, .inl ⟨_, _, rfl, rfl, .box ⟨.v, .v, .v, .v, .v, trivial⟩⟩⟩, ⟨⟨rfl, .inl ⟨_, _, rfl, rfl, .box ⟨(.own rfl), .v, .v, (.own rfl), (.own rfl), trivial⟩⟩⟩, ⟨⟨rfl, .inl ⟨_, _, rfl, rfl, .arr rfl⟩⟩, ⟨⟨rfl, .inl ⟨_, _, rfl, rfl, .arr rfl⟩⟩, ⟨⟨rfl, .inl ⟨_, _, rfl, rfl, .arr rfl⟩⟩, ⟨⟨rfl, .inl ⟨_, _, rfl, rfl, .box ⟨.v, .v, .v, .v, trivial⟩⟩⟩, trivial⟩⟩⟩⟩⟩⟩))
            · replace H := cf H c119
              refine T.seq ?_
              refine T.seq ?_
              refine T.sub (sub_pick [0, 1, 4, 5, 6, 7, 8, 9, 10, 51] [0, 1, 2, 3, 4, 8] (st' := ⟨[(0, .lst (List.map eI a0)), (1, .v (.int .i64 a1)), (4, .ptr 0 0), (5, .ptr 1 0), (6, .v (.int .i64 o108.1)), (7, .v (.int .i64 o108.2)), (8, .v (.int .i64 v97)), (9, .v (.int .u64 (IntKind.u64.wrap y104))), (10, .ptr 8 0), (51, .v (.int .u64 ((IntKind.u64.wrap ((IntKind.u64.wrap y104).tdiv 7)).tmod 6)))], [(0, some (.box [.v (.slice none 0 0), .v (.int .i64 0), .v (.int .i64 0), .v (.slice none 0 0), .v (.slice none 0 0)])), (1, some (.box [.own 2 0 v91.length, .v (.int .i64 10), .v (.int .i64 v92), .own 3 0 v93.length, .own 4 0 v94.length])), (2, some (.arr false 4 (List.map eSeat v91))), (3, some (.arr false 1 (List.map eI v93))), (4, some (.arr false 3 (List.map ePole v94))), (8, some (.box [.v (.int .i64 o108.1), .v (.int .i64 o108.2), .v (.int .i64 (wr (10 * o108.1))), .v (.int .i64 0)]))], 24, []⟩) rfl rfl rfl rfl rfl) ?_
              refine T.region ?_
              refine RunT.ot0 (x := .v (.bool (decide (((IntKind.u64.wrap ((IntKind.u64.wrap y104).tdiv 7)).tmod 6) = 1)))) rfl rfl rfl rfl (.bin rfl rfl (fun w => b_eql w) rfl) ?_
              refine RunT.ot0 (x := .v (.bool (decide (((IntKind.u64.wrap ((IntKind.u64.wrap y104).tdiv 7)).tmod 6) = 1)))) rfl rfl rfl rfl (.assignX rfl) ?_
              refine RunT.nil ?_
              refine T.cond2 (t := decide (((IntKind.u64.wrap ((IntKind.u64.wrap y104).tdiv 7)).tmod 6) = 1)) rfl (fun c120 => ?_) (fun c120 => ?_)
              · replace H := ct H c120
                refine T.skip ?_
                refine T.condT (bo c120) ?_
                refine T.region ?_
                refine RunT.ot0 (x := .ptr 8 3) rfl rfl rfl rfl (.fieldPX fl28_3 rfl rfl) ?_
                refine RunT.on1 (x := .junk) (p0 := (8, some (.box [.v (.int .i64 o108.1), .v (.int .i64 o108.2), .v (.int .i64 (wr (10 * o108.1))), .v (.int .i64 2)]))) (n' := 32) rfl rfl rfl (.storePX ty3 rfl rfl rfl rfl rfl rfl rfl) rfl ?_
                refine RunT.nil ?_
                obtain rfl := si H
                exact (sub_to [some 0, some 1, some 2, some 3, some 4, some 8] (by decide) rfl rfl (⟨⟨_, rfl, .one .lst⟩, ⟨⟨_, rfl, .one .v⟩, ⟨⟨_, rfl, .one (.ptr rfl)⟩, ⟨⟨_, rfl, .one (.ptr rfl)⟩, ⟨⟨_, rfl, .one .v⟩, ⟨⟨_, rfl, .one .v⟩, ⟨⟨_, rfl, .one .v⟩, ⟨⟨_, rfl, .one .v⟩, ⟨⟨_, rfl, .one (.ptr rfl)⟩, trivial⟩⟩⟩⟩⟩⟩⟩⟩⟩) (⟨⟨rfl, .inl ⟨_, _, rfl, rfl, .box ⟨.v, .v, .v, .v, .v, trivial⟩⟩⟩, ⟨⟨rfl, .inl ⟨_, _, rfl, rfl, .box ⟨(.own rfl), .v, .v, (.own rfl), (.own rfl), trivial⟩⟩⟩, ⟨⟨rfl, .inl ⟨_, _, rfl, rfl, .arr rfl⟩⟩, ⟨⟨rfl, .inl ⟨_, _, rfl, rfl, .arr rfl⟩⟩, ⟨⟨rfl, .inl ⟨_, _, rfl, rfl, .arr rfl⟩⟩, ⟨⟨rfl, .inl ⟨_, _, rfl, rfl, .box ⟨.v, .v, .v, .v, trivial⟩⟩⟩, trivial⟩⟩⟩⟩⟩⟩))
              · replace H := cf H c120
                refine T.region ?_
                refine RunT.ot0 (x := .v (.bool (decide (((IntKind.u64.wrap ((IntKind.u64.wrap y104).tdiv 7)).tmod 6) = 2)))) rfl rfl rfl rfl (.bin rfl rfl (fun w => b_eql w) rfl) ?_
                refine RunT.ot0 (x := .v (.bool (decide (((IntKind.u64.wrap ((IntKind.u64.wrap y104).tdiv 7)).tmod 6) = 2)))) rfl rfl rfl rfl (.assignX rfl) ?_
                refine RunT.nil ?_
                refine T.cond2 (t := decide (((IntKind.u64.wrap ((IntKind.u64.wrap y104).tdiv 7)).tmod 6) = 2)) rfl (fun c121 => ?_) (fun c121 => ?_)
                · replace H := ct H c121
                  refine T.region ?_
                  refine RunT.ot0 (x := .ptr 8 3) rfl rfl rfl rfl (.fieldPX fl28_3 rfl rfl) ?_
                  refine RunT.on1 (x := .junk) (p0 := (8, some (.box [.v (.int .i64 o108.1), .v (.int .i64 o108.2), .v (.int .i64 (wr (10 * o108.1))), .v (.int .i64 2)]))) (n' := 32) rfl rfl rfl (.storePX ty3 rfl rfl rfl rfl rfl rfl rfl) rfl ?_
                  refine RunT.nil ?_
                  obtain rfl := si H
                  exact (sub_to [some 0, some 1, some 2, some 3, some 4, some 8] (by decide) rfl rfl (⟨⟨_, rfl, .one .lst⟩, ⟨⟨_, rfl, .one .v⟩, ⟨⟨_, rfl, .one (.ptr rfl)⟩, ⟨⟨_, rfl, .one (.ptr rfl)⟩, ⟨⟨_, rfl, .one .v⟩, ⟨⟨_, rfl, .one .v⟩, ⟨⟨_, rfl, .one .v⟩, ⟨⟨_, rfl, .one .v⟩, ⟨⟨_, rfl, .one (.ptr rfl)⟩, trivial⟩⟩⟩⟩⟩⟩⟩⟩⟩) (⟨⟨rfl, .inl ⟨_, _, rfl, rfl, .box ⟨.v, .v, .v, .v, .v, trivial⟩⟩⟩, ⟨⟨rfl, .inl ⟨_, _, rfl, rfl, .box ⟨(.own rfl), .v, .v, (.own rfl), (.own rfl), trivial⟩⟩⟩, ⟨⟨rfl, .inl ⟨_, _, rfl, rfl, .arr rfl⟩⟩, ⟨⟨rfl, .inl ⟨_, _, rfl, rfl, .arr rfl⟩⟩, ⟨⟨rfl, .inl ⟨_, _, rfl, rfl, .arr rfl⟩⟩, ⟨⟨rfl, .inl ⟨_, _, rfl, rfl, .box ⟨.v, .v, .v, .v, trivial⟩⟩⟩, trivial⟩⟩⟩⟩⟩⟩))
                · replace H := cf H c121
                  refine T.skip ?_
                  obtain rfl := si H
                  exact (sub_to [some 0, some 1, some 2, some 3, some 4, some 8] (by decide) rfl rfl (⟨⟨_, rfl, .one .lst⟩, ⟨⟨_, rfl, .one .v⟩, ⟨⟨_, rfl, .one (.ptr rfl)⟩, ⟨⟨_, rfl, .one (.ptr rfl)⟩, ⟨⟨_, rfl, .one .v⟩, ⟨⟨_, rfl, .one .v⟩, ⟨⟨_, rfl, .one .v⟩, ⟨⟨_, rfl, .one .v⟩, ⟨⟨_, rfl, .one (.ptr rfl)⟩, trivial⟩⟩⟩⟩⟩⟩⟩⟩⟩) (⟨⟨rfl, .inl ⟨_, _, rfl, rfl, .box ⟨.v, .v, .v, .v, .v, trivial⟩⟩⟩, ⟨⟨rfl, .inl ⟨_, _, rfl, rfl, .box ⟨(.own rfl), .v, .v, (.own rfl), (.own rfl), trivial⟩⟩⟩, ⟨⟨rfl, .inl ⟨_, _, rfl, rfl, .arr rfl⟩⟩, ⟨⟨rfl, .inl ⟨_, _, rfl, rfl, .arr rfl⟩⟩, ⟨⟨rfl, .inl ⟨_, _, rfl, rfl, .arr rfl⟩⟩, ⟨⟨rfl, .inl ⟨_, _, rfl, rfl, .box ⟨.v, .v, .v, .v, trivial⟩⟩⟩, trivial⟩⟩⟩⟩⟩⟩))
          · intro s hS
            have H := HO118
            refine T.sub hS ?_
            refine T.seq ?_
            refine T.region ?_
            refine RunT.ot0 (x := .ptr 1 0) rfl rfl rfl rfl (.fieldPX fl26_0 rfl rfl) ?_
            refine RunT.ot0 (x := .own 2 0 v91.length) rfl rfl rfl rfl (.loadP ty22 rfl rfl rfl) ?_
            refine RunT.ot0 (x := .agg [.v (.int .i64 o108.1), .v (.int .i64 o108.2), .v (.int .i64 (wr (10 * o108.1))), .v (.int .i64 o116)]) rfl rfl rfl rfl (.loadP ty28 rfl rfl rfl) ?_
            refine RunT.ot1 (x := .own 8 0 (([Seat.mk o108.1 o108.2 (wr (10 * o108.1)) o116]).length)) (p0 := (8, some (.arr false 4 (List.map eSeat [Seat.mk o108.1 o108.2 (wr (10 * o108.1)) o116])))) (n' := 16) rfl rfl rfl rfl (.bslicem (d := false) (l := [Seat.mk o108.1 o108.2 (wr (10 * o108.1)) o116]) (f := eSeat) sl22 rfl rfl rfl enc_Seat rfl) rfl ?_
            obtain ⟨h122, H⟩ := gs H
            refine RunT.ot2 (x := .own 16 0 ((v91 ++ [Seat.mk o108.1 o108.2 (wr (10 * o108.1)) o116]).length)) (p0 := (16, some (.arr false 4 (List.map eSeat (v91 ++ [Seat.mk o108.1 o108.2 (wr (10 * o108.1)) o116]))))) (p1 := (2, none)) (n' := 24) rfl rfl rfl rfl (.appOn (d := false) (l := v91) (m := [Seat.mk o108.1 o108.2 (wr (10 * o108.1)) o116]) (f := eSeat) rfl sl22 rfl rfl rfl (.ownn Try.underlying22 rfl rfl (fun h => by cases h)) rfl h122) rfl ?_
            refine RunT.ot0 (x := .ptr 1 0) rfl rfl rfl rfl (.fieldPX fl26_0 rfl rfl) ?_
            refine RunT.on1 (x := .junk) (p0 := (1, some (.box [.own 16 0 ((v91 ++ [Seat.mk o108.1 o108.2 (wr (10 * o108.1)) o116]).length), .v (.int .i64 10), .v (.int .i64 v92), .own 3 0 v93.length, .own 4 0 v94.length]))) (n' := 32) rfl rfl rfl (.storePX ty22 rfl rfl rfl rfl rfl rfl rfl) rfl ?_
            refine RunT.nil ?_
            refine T.seq ?_
            refine T.seq ?_
            refine T.region ?_
            refine RunT.ot0 (x := .v (.int .u64 (IntKind.u64.wrap y104))) rfl rfl rfl rfl (.moveX rfl) ?_
            refine RunT.ot0 (x := .v (.int .u64 (IntKind.u64.wrap ((IntKind.u64.wrap y104).tdiv 42)))) rfl rfl rfl rfl (.bin rfl rfl (fun w => b_quo w (by decide)) rfl) ?_
            refine RunT.ot0 (x := .v (.int .u64 ((IntKind.u64.wrap ((IntKind.u64.wrap y104).tdiv 42)).tmod 9))) rfl rfl rfl rfl (.bin rfl rfl (fun w => b_rem w (by decide)) rfl) ?_
            refine RunT.ot0 (x := .v (.bool (decide (((IntKind.u64.wrap ((IntKind.u64.wrap y104).tdiv 42)).tmod 9) = 0)))) rfl rfl rfl rfl (.bin rfl rfl (fun w => b_eql w) rfl) ?_
            refine RunT.nil ?_
            obtain ⟨o125, E126, HO127⟩ := bs H
            refine T.cutE (⟨[(0, .lst (List.map eI a0)), (1, .v (.int .i64 a1)), (4, .ptr 0 0), (5, .ptr 1 0), (6, .v (.int .i64 o108.1)), (7, .v (.int .i64 o108.2)), (8, .v (.int .i64 v97)), (9, .v (.int .u64 (IntKind.u64.wrap y104)))], [(0, some (.box [.v (.slice none 0 0), .v (.int .i64 0), .v (.int .i64 0), .v (.slice none 0 0), .v (.slice none 0 0)])), (1, some (.box [.own 2 0 ((v91 ++ [Seat.mk o108.1 o108.2 (wr (10 * o108.1)) o116]).length), .v (.int .i64 10), .v (.int .i64 v92), .own 3 0 o125.length, .own 4 0 v94.length])), (2, some (.arr false 4 (List.map eSeat (v91 ++ [Seat.mk o108.1 o108.2 (wr (10 * o108.1)) o116])))), (3, some (.arr false 1 (List.map eI o125))), (4, some (.arr false 3 (List.map ePole v94)))], 8, []⟩) ?_ ?_
            · have H := E126
              refine T.cond2 (t := decide (((IntKind.u64.wrap ((IntKind.u64.wrap y104).tdiv 42)).tmod 9) = 0)) rfl (fun c128 => ?_) (fun c128 => ?_)
              · replace H := ct H c128
                refine T.region ?_
                refine RunT.ot0 (x := .ptr 1 3) rfl rfl rfl rfl (.fieldPX fl26_3 rfl rfl) ?_
                refine RunT.ot0 (x := .own 3 0 v93.length) rfl rfl rfl rfl (.loadP ty23 rfl rfl rfl) ?_
                refine RunT.ot0 (x := .ptr 1 0) rfl rfl rfl rfl (.fieldPX fl26_0 rfl rfl) ?_
                refine RunT.ot0 (x := .own 16 0 ((v91 ++ [Seat.mk o108.1 o108.2 (wr (10 * o108.1)) o116]).length)) rfl rfl rfl rfl (.loadP ty22 rfl rfl rfl) ?_
                refine RunT.ot0 (x := .v (.int .i64 ((v91 ++ [Seat.mk o108.1 o108.2 (wr (10 * o108.1)) o116]).length : Int))) rfl rfl rfl rfl (.lenON rfl Try.underlying22 rfl rfl) ?_
                refine RunT.ot0 (x := .v (.int .i64 (wr (((v91 ++ [Seat.mk o108.1 o108.2 (wr (10 * o108.1)) o116]).length : Int) - 1)))) rfl rfl rfl rfl (.bin rfl rfl (fun w => b_subw w) rfl) ?_
                refine RunT.ot1 (x := .own 32 0 (([wr (((v91 ++ [Seat.mk o108.1 o108.2 (wr (10 * o108.1)) o116]).length : Int) - 1)]).length)) (p0 := (32, some (.arr false 1 (List.map eI [wr (((v91 ++ [Seat.mk o108.1 o108.2 (wr (10 * o108.1)) o116]).length : Int) - 1)])))) (n' := 40) rfl rfl rfl rfl (.bslicem (d := false) (l := [wr (((v91 ++ [Seat.mk o108.1 o108.2 (wr (10 * o108.1)) o116]).length : Int) - 1)]) (f := eI) sl23 rfl rfl rfl enc_I rfl) rfl ?_
                obtain ⟨h129, H⟩ := gs H
                refine RunT.ot2 (x := .own 40 0 ((v93 ++ [wr (((v91 ++ [Seat.mk o108.1 o108.2 (wr (10 * o108.1)) o116]).length : Int) - 1)]).length)) (p0 := (40, some (.arr false 1 (List.map eI (v93 ++ [wr (((v91 ++ [Seat.mk o108.1 o108.2 (wr (10 * o108.1)) o116]).length : Int) - 1)]))))) (p1 := (3, none)) (n' := 48) rfl rfl rfl rfl (.appOn (d := false) (l := v93) (m := [wr (((v91 ++ [Seat.mk o108.1 o108.2 (wr (10 * o108.1)) o116]).length : Int) - 1)]) (f := eI) rfl sl23 rfl rfl rfl (.ownn Try.underlying23 rfl rfl (fun h => by cases h)) rfl h129) rfl ?_
                refine RunT.ot0 (x := .ptr 1 3) rfl rfl rfl rfl (.fieldPX fl26_3 rfl rfl) ?_
                refine RunT.on1 (x := .junk) (p0 := (1, some (.box [.own 16 0 ((v91 ++ [Seat.mk o108.1 o108.2 (wr (10 * o108.1)) o116]).length), .v (.int .i64 10), .v (.int .i64 v92), .own 40 0 ((v93 ++ [wr (((v91 ++ [Seat.mk o108.1 o108.2 (wr (10 * o108.1)) o116]).length : Int) - 1)]).length), .own 4 0 v94.length]))) (n' := 56) rfl rfl rfl (.storePX ty23 rfl rfl rfl rfl rfl rfl rfl) rfl ?_
                refine RunT.nil ?_
                obtain rfl := si H
                exact (sub_to [some 0, some 1, some 16, some 40, some 4] (by decide) rfl rfl (⟨⟨_, rfl, .one .lst⟩, ⟨⟨_, rfl, .one .v⟩, ⟨⟨_, rfl, .one (.ptr rfl)⟩, ⟨⟨_, rfl, .one (.ptr rfl)⟩, ⟨⟨_, rfl, .one .v⟩, ⟨⟨_, rfl, .one .v⟩, ⟨⟨_, rfl, .one .v⟩, ⟨⟨_, rfl, .one .v⟩, trivial⟩⟩⟩⟩⟩⟩⟩⟩) (⟨⟨rfl, .inl ⟨_, _, rfl, rfl, .box ⟨.v, .v, .v, .v, .v, trivial⟩⟩⟩, ⟨⟨rfl, .inl ⟨_, _, rfl, rfl, .box ⟨(.own rfl), .v, .v, (.own rfl), (.own rfl), trivial⟩⟩⟩, ⟨⟨rfl, .inl ⟨_, _, rfl, rfl, .arr rfl⟩⟩, ⟨⟨rfl, .inl ⟨_, _, rfl, rfl, .arr rfl⟩⟩, ⟨⟨rfl, .inl ⟨_, _, rfl, rfl, .arr rfl⟩⟩, trivial⟩⟩⟩⟩⟩))
              · replace H := cf H c128
                refine T.skip ?_
                obtain rfl := si H
                exact (sub_to [some 0, some 1, some 16, some 3, some 4] (by decide) rfl rfl (⟨⟨_, rfl, .one .lst⟩, ⟨⟨_, rfl, .one .v⟩, ⟨⟨_, rfl, .one (.ptr rfl)⟩, ⟨⟨_, rfl, .one (.ptr rfl)⟩, ⟨⟨_, rfl, .one .v⟩, ⟨⟨_, rfl, .one .v⟩, ⟨⟨_, rfl, .one .v⟩, ⟨⟨_, rfl, .one .v⟩, trivial⟩⟩⟩⟩⟩⟩⟩⟩) (⟨⟨rfl, .inl ⟨_, _, rfl, rfl, .box ⟨.v, .v, .v, .v, .v, trivial⟩⟩⟩, ⟨⟨rfl, .inl ⟨_, _, rfl, rfl, .box ⟨(.own rfl), .v, .v, (.own rfl), (.own rfl), trivial⟩⟩⟩, ⟨⟨rfl, .inl ⟨_, _, rfl, rfl, .arr rfl⟩⟩, ⟨⟨rfl, .inl ⟨_, _, rfl, rfl, .arr rfl⟩⟩, ⟨⟨rfl, .inl ⟨_, _, rfl, rfl, .arr rfl⟩⟩, trivial⟩⟩⟩⟩⟩))
            · intro s hS
              have H := HO127
              refine T.sub hS ?_
              refine T.seq ?_
              refine T.seq ?_
              refine T.sub (sub_pick [0, 1, 4, 5, 6, 7, 8, 9] [0, 1, 2, 3, 4] (st' := ⟨[(0, .lst (List.map eI a0)), (1, .v (.int .i64 a1)), (4, .ptr 0 0), (5, .ptr 1 0), (6, .v (.int .i64 o108.1)), (7, .v (.int .i64 o108.2)), (8, .v (.int .i64 v97)), (9, .v (.int .u64 (IntKind.u64.wrap y104)))], [(0, some (.box [.v (.slice none 0 0), .v (.int .i64 0), .v (.int .i64 0), .v (.slice none 0 0), .v (.slice none 0 0)])), (1, some (.box [.own 2 0 ((v91 ++ [Seat.mk o108.1 o108.2 (wr (10 * o108.1)) o116]).length), .v (.int .i64 10), .v (.int .i64 v92), .own 3 0 o125.length, .own 4 0 v94.length])), (2, some (.arr false 4 (List.map eSeat (v91 ++ [Seat.mk o108.1 o108.2 (wr (10 * o108.1)) o116])))), (3, some (.arr false 1 (List.map eI o125))), (4, some (.arr false 3 (List.map ePole v94)))], 8, []⟩) rfl rfl rfl rfl rfl) ?_
              refine T.region ?_
              refine RunT.ot0 (x := .v (.int .u64 (IntKind.u64.wrap y104))) rfl rfl rfl rfl (.moveX rfl) ?_
              refine RunT.ot0 (x := .v (.int .u64 (IntKind.u64.wrap ((IntKind.u64.wrap y104).tdiv 42)))) rfl rfl rfl rfl (.bin rfl rfl (fun w => b_quo w (by decide)) rfl) ?_
              refine RunT.ot0 (x := .v (.int .u64 ((IntKind.u64.wrap ((IntKind.u64.wrap y104).tdiv 42)).tmod 11))) rfl rfl rfl rfl (.bin rfl rfl (fun w => b_rem w (by decide)) rfl) ?_
              refine RunT.ot0 (x := .v (.bool (decide (((IntKind.u64.wrap ((IntKind.u64.wrap y104).tdiv 42)).tmod 11) = 1)))) rfl rfl rfl rfl (.bin rfl rfl (fun w => b_eql w) rfl) ?_
              refine RunT.nil ?_
              obtain ⟨o132, E133, HO134⟩ := bs H
              refine T.cutE (⟨[(0, .lst (List.map eI a0)), (1, .v (.int .i64 a1)), (4, .ptr 0 0), (5, .ptr 1 0), (6, .v (.int .i64 o108.1)), (7, .v (.int .i64 o108.2)), (8, .v (.int .i64 v97)), (9, .v (.int .u64 (IntKind.u64.wrap y104)))], [(0, some (.box [.v (.slice none 0 0), .v (.int .i64 0), .v (.int .i64 0), .v (.slice none 0 0), .v (.slice none 0 0)])), (1, some (.box [.own 2 0 ((v91 ++ [Seat.mk o108.1 o108.2 (wr (10 * o108.1)) o116]).length), .v (.int .i64 10), .v (.int .i64 v92), .own 3 0 o125.length, .own 4 0 o132.length])), (2, some (.arr false 4 (List.map eSeat (v91 ++ [Seat.mk o108.1 o108.2 (wr (10 * o108.1)) o116])))), (3, some (.arr false 1 (List.map eI o125))), (4, some (.arr false 3 (List.map ePole o132)))], 8, []⟩) ?_ ?_
              · have H := E133
                refine T.cond2 (t := decide (((IntKind.u64.wrap ((IntKind.u64.wrap y104).tdiv 42)).tmod 11) = 1)) rfl (fun c135 => ?_) (fun c135 => ?_)
                · replace H := ct H c135
                  refine T.sub (sub_pick [0, 1, 4, 5, 6, 7, 8, 9] [0, 1, 2, 3, 4] (st' := ⟨[(0, .lst (List.map eI a0)), (1, .v (.int .i64 a1)), (4, .ptr 0 0), (5, .ptr 1 0), (6, .v (.int .i64 o108.1)), (7, .v (.int .i64 o108.2)), (8, .v (.int .i64 v97)), (9, .v (.int .u64 (IntKind.u64.wrap y104)))], [(0, some (.box [.v (.slice none 0 0), .v (.int .i64 0), .v (.int .i64 0), .v (.slice none 0 0), .v (.slice none 0 0)])), (1, some (.box [.own 2 0 ((v91 ++ [Seat.mk o108.1 o108.2 (wr (10 * o108.1)) o116]).length), .v (.int .i64 10), .v (.int .i64 v92), .own 3 0 o125.length, .own 4 0 v94.length])), (2, some (.arr false 4 (List.map eSeat (v91 ++ [Seat.mk o108.1 o108.2 (wr (10 * o108.1)) o116])))), (3, some (.arr false 1 (List.map eI o125))), (4, some (.arr false 3 (List.map ePole v94)))], 8, []⟩) rfl rfl rfl rfl rfl) ?_
                  refine T.region ?_
                  refine RunT.ot0 (x := .ptr 1 4) rfl rfl rfl rfl (.fieldPX fl26_4 rfl rfl) ?_
                  refine RunT.ot0 (x := .own 4 0 v94.length) rfl rfl rfl rfl (.loadP ty24 rfl rfl rfl) ?_
                  refine RunT.ot0 (x := .v (.int .i64 o108.2)) rfl rfl rfl rfl (.moveX rfl) ?_
                  refine RunT.ot0 (x := .v (.int .i64 o108.1)) rfl rfl rfl rfl (.moveX rfl) ?_
                  refine RunT.ot0 (x := .v (.int .i64 (wr (10 * o108.1)))) rfl rfl rfl rfl (.bin rfl rfl (fun w => b_mulw w) rfl) ?_
                  refine RunT.ot0 (x := .v (.int .u64 (IntKind.u64.wrap y104))) rfl rfl rfl rfl (.moveX rfl) ?_
                  refine RunT.ot0 (x := .v (.int .u64 (IntKind.u64.wrap ((IntKind.u64.wrap y104).tdiv 500)))) rfl rfl rfl rfl (.bin rfl rfl (fun w => b_quo w (by decide)) rfl) ?_
                  refine RunT.ot0 (x := .v (.int .u64 ((IntKind.u64.wrap ((IntKind.u64.wrap y104).tdiv 500)).tmod 12))) rfl rfl rfl rfl (.bin rfl rfl (fun w => b_rem w (by decide)) rfl) ?_
                  refine RunT.ot0 (x := .v (.int .i64 (wr ((IntKind.u64.wrap ((IntKind.u64.wrap y104).tdiv 500)).tmod 12)))) rfl rfl rfl rfl (.conv rfl (fun w => c_intw w ⟨_, Try.underlying41⟩ Try.underlying3) rfl) ?_
                  refine RunT.ot0 (x := .v (.int .i64 (wr (1 + (wr ((IntKind.u64.wrap ((IntKind.u64.wrap y104).tdiv 500)).tmod 12)))))) rfl rfl rfl rfl (.bin rfl rfl (fun w => b_addw w) rfl) ?_
                  refine RunT.ot0 (x := .agg [.v (.int .i64 o108.2), .v (.int .i64 (wr (10 * o108.1))), .v (.int .i64 (wr (1 + (wr ((IntKind.u64.wrap ((IntKind.u64.wrap y104).tdiv 500)).tmod 12)))))]) rfl rfl rfl rfl (.bu bu60 rfl) ?_
                  refine RunT.ot1 (x := .own 8 0 (([Pole.mk o108.2 (wr (10 * o108.1)) (wr (1 + (wr ((IntKind.u64.wrap ((IntKind.u64.wrap y104).tdiv 500)).tmod 12))))]).length)) (p0 := (8, some (.arr false 3 (List.map ePole [Pole.mk o108.2 (wr (10 * o108.1)) (wr (1 + (wr ((IntKind.u64.wrap ((IntKind.u64.wrap y104).tdiv 500)).tmod 12))))])))) (n' := 16) rfl rfl rfl rfl (.bslicem (d := false) (l := [Pole.mk o108.2 (wr (10 * o108.1)) (wr (1 + (wr ((IntKind.u64.wrap ((IntKind.u64.wrap y104).tdiv 500)).tmod 12))))]) (f := ePole) sl24 rfl rfl rfl enc_Pole rfl) rfl ?_
                  obtain ⟨h136, H⟩ := gs H
                  refine RunT.ot2 (x := .own 16 0 ((v94 ++ [Pole.mk o108.2 (wr (10 * o108.1)) (wr (1 + (wr ((IntKind.u64.wrap ((IntKind.u64.wrap y104).tdiv 500)).tmod 12))))]).length)) (p0 := (16, some (.arr false 3 (List.map ePole (v94 ++ [Pole.mk o108.2 (wr (10 * o108.1)) (wr (1 + (wr ((IntKind.u64.wrap ((IntKind.u64.wrap y104).tdiv 500)).tmod 12))))]))))) (p1 := (4, none)) (n' := 24) rfl rfl rfl rfl (.appOn (d := false) (l := v94) (m := [Pole.mk o108.2 (wr (10 * o108.1)) (wr (1 + (wr ((IntKind.u64.wrap ((IntKind.u64.wrap y104).tdiv 500)).tmod 12))))]) (f := ePole) rfl sl24 rfl rfl rfl (.ownn Try.underlying24 rfl rfl (fun h => by cases h)) rfl h136) rfl ?_
                  refine RunT.ot0 (x := .ptr 1 4) rfl rfl rfl rfl (.fieldPX fl26_4 rfl rfl) ?_
                  refine RunT.on1 (x := .junk) (p0 := (1, some (.box [.own 2 0 ((v91 ++ [Seat.mk o108.1 o108.2 (wr (10 * o108.1)) o116]).length), .v (.int .i64 10), .v (.int .i64 v92), .own 3 0 o125.length, .own 16 0 ((v94 ++ [Pole.mk o108.2 (wr (10 * o108.1)) (wr (1 + (wr ((IntKind.u64.wrap ((IntKind.u64.wrap y104).tdiv 500)).tmod 12))))]).length)]))) (n' := 32) rfl rfl rfl (.storePX ty24 rfl rfl rfl rfl rfl rfl rfl) rfl ?_
                  refine RunT.nil ?_
                  obtain rfl := si H
                  exact (sub_to [some 0, some 1, some 2, some 3, some 16] (by decide) rfl rfl (⟨⟨_, rfl, .one .lst⟩, ⟨⟨_, rfl, .one .v⟩, ⟨⟨_, rfl, .one (.ptr rfl)⟩, ⟨⟨_, rfl, .one (.ptr rfl)⟩, ⟨⟨_, rfl, .one .v⟩, ⟨⟨_, rfl, .one .v⟩, ⟨⟨_, rfl, .one .v⟩, ⟨⟨_, rfl, .one .v⟩, trivial⟩⟩⟩⟩⟩⟩⟩⟩) (⟨⟨rfl, .inl ⟨_, _, rfl, rfl, .box ⟨.v, .v, .v, .v, .v, trivial⟩⟩⟩, ⟨⟨rfl, .inl ⟨_, _, rfl, rfl, .box ⟨(.own rfl), .v, .v, (.own rfl), (.own rfl), trivial⟩⟩⟩, ⟨⟨rfl, .inl ⟨_, _, rfl, rfl, .arr rfl⟩⟩, ⟨⟨rfl, .inl ⟨_, _, rfl, rfl, .arr rfl⟩⟩, ⟨⟨rfl, .inl ⟨_, _, rfl, rfl, .arr rfl⟩⟩, trivial⟩⟩⟩⟩⟩))
                · replace H := cf H c135
                  refine T.skip ?_
                  obtain rfl := si H
                  exact (sub_to [some 0, some 1, some 2, some 3, some 4] (by decide) rfl rfl (⟨⟨_, rfl, .one .lst⟩, ⟨⟨_, rfl, .one .v⟩, ⟨⟨_, rfl, .one (.ptr rfl)⟩, ⟨⟨_, rfl, .one (.ptr rfl)⟩, ⟨⟨_, rfl, .one .v⟩, ⟨⟨_, rfl, .one .v⟩, ⟨⟨_, rfl, .one .v⟩, ⟨⟨_, rfl, .one .v⟩, trivial⟩⟩⟩⟩⟩⟩⟩⟩) (⟨⟨rfl, .inl ⟨_, _, rfl, rfl, .box ⟨.v, .v, .v, .v, .v, trivial⟩⟩⟩, ⟨⟨rfl, .inl ⟨_, _, rfl, rfl, .box ⟨(.own rfl), .v, .v, (.own rfl), (.own rfl), trivial⟩⟩⟩, ⟨⟨rfl, .inl ⟨_, _, rfl, rfl, .arr rfl⟩⟩, ⟨⟨rfl, .inl ⟨_, _, rfl, rfl, .arr rfl⟩⟩, ⟨⟨rfl, .inl ⟨_, _, rfl, rfl, .arr rfl⟩⟩, trivial⟩⟩⟩⟩⟩))
              · intro s hS
                have H := HO134
                refine T.sub hS ?_
                refine T.seq ?_
                refine T.region ?_
                refine RunT.ot0 (x := .v (.int .u64 (IntKind.u64.wrap y104))) rfl rfl rfl rfl (.moveX rfl) ?_
                refine RunT.ot0 (x := .v (.int .u64 (IntKind.u64.wrap ((IntKind.u64.wrap y104).tdiv 42)))) rfl rfl rfl rfl (.bin rfl rfl (fun w => b_quo w (by decide)) rfl) ?_
                refine RunT.ot0 (x := .v (.int .u64 ((IntKind.u64.wrap ((IntKind.u64.wrap y104).tdiv 42)).tmod 5))) rfl rfl rfl rfl (.bin rfl rfl (fun w => b_rem w (by decide)) rfl) ?_
                refine RunT.ot0 (x := .v (.bool (decide (((IntKind.u64.wrap ((IntKind.u64.wrap y104).tdiv 42)).tmod 5) = 3)))) rfl rfl rfl rfl (.bin rfl rfl (fun w => b_eql w) rfl) ?_
                refine RunT.nil ?_
                refine T.cond2 (t := decide (((IntKind.u64.wrap ((IntKind.u64.wrap y104).tdiv 42)).tmod 5) = 3)) rfl (fun c137 => ?_) (fun c137 => ?_)
                · replace H := ct H c137
                  refine T.sub (sub_pick [0, 1, 4, 5, 6, 7, 8, 9] [0, 1, 2, 3, 4] (st' := ⟨[(0, .lst (List.map eI a0)), (1, .v (.int .i64 a1)), (4, .ptr 0 0), (5, .ptr 1 0), (6, .v (.int .i64 o108.1)), (7, .v (.int .i64 o108.2)), (8, .v (.int .i64 v97)), (9, .v (.int .u64 (IntKind.u64.wrap y104)))], [(0, some (.box [.v (.slice none 0 0), .v (.int .i64 0), .v (.int .i64 0), .v (.slice none 0 0), .v (.slice none 0 0)])), (1, some (.box [.own 2 0 ((v91 ++ [Seat.mk o108.1 o108.2 (wr (10 * o108.1)) o116]).length), .v (.int .i64 10), .v (.int .i64 v92), .own 3 0 o125.length, .own 4 0 o132.length])), (2, some (.arr false 4 (List.map eSeat (v91 ++ [Seat.mk o108.1 o108.2 (wr (10 * o108.1)) o116])))), (3, some (.arr false 1 (List.map eI o125))), (4, some (.arr false 3 (List.map ePole o132)))], 8, []⟩) rfl rfl rfl rfl rfl) ?_
                  refine T.region ?_
                  refine RunT.ot0 (x := .v (.int .u64 (IntKind.u64.wrap y104))) rfl rfl rfl rfl (.moveX rfl) ?_
                  refine RunT.ot0 (x := .v (.int .u64 (IntKind.u64.wrap ((IntKind.u64.wrap y104).tdiv 300)))) rfl rfl rfl rfl (.bin rfl rfl (fun w => b_quo w (by decide)) rfl) ?_
                  refine RunT.ot0 (x := .v (.int .u64 ((IntKind.u64.wrap ((IntKind.u64.wrap y104).tdiv 300)).tmod 25))) rfl rfl rfl rfl (.bin rfl rfl (fun w => b_rem w (by decide)) rfl) ?_
                  refine RunT.ot0 (x := .v (.int .i64 (wr ((IntKind.u64.wrap ((IntKind.u64.wrap y104).tdiv 300)).tmod 25)))) rfl rfl rfl rfl (.conv rfl (fun w => c_intw w ⟨_, Try.underlying41⟩ Try.underlying3) rfl) ?_
                  refine RunT.ot0 (x := .ptr 1 2) rfl rfl rfl rfl (.fieldPX fl26_2 rfl rfl) ?_
                  refine RunT.on1 (x := .junk) (p0 := (1, some (.box [.own 2 0 ((v91 ++ [Seat.mk o108.1 o108.2 (wr (10 * o108.1)) o116]).length), .v (.int .i64 10), .v (.int .i64 (wr ((IntKind.u64.wrap ((IntKind.u64.wrap y104).tdiv 300)).tmod 25))), .own 3 0 o125.length, .own 4 0 o132.length]))) (n' := 16) rfl rfl rfl (.storePX ty3 rfl rfl rfl rfl rfl rfl rfl) rfl ?_
                  refine RunT.nil ?_
                  refine T.region ?_
                  refine RunT.ot0 (x := .v (.int .i64 v97)) rfl rfl rfl rfl (.moveX rfl) ?_
                  refine RunT.ot0 (x := .v (.int .i64 (wr (v97 + 1)))) rfl rfl rfl rfl (.bin rfl rfl (fun w => b_addw w) rfl) ?_
                  refine RunT.ot0 (x := .v (.int .i64 (wr (v97 + 1)))) rfl rfl rfl rfl (.assignX rfl) ?_
                  refine RunT.nil ?_
                  exact ⟨n, Nat.lt_succ_self n, _, ⟨v91 ++ [Seat.mk o108.1 o108.2 (wr (10 * o108.1)) o116], wr ((IntKind.u64.wrap ((IntKind.u64.wrap y104).tdiv 300)).tmod 25), o125, o132, o108.1, o108.2, wr (v97 + 1), H, rfl⟩, (sub_to [some 0, some 1, some 2, some 3, some 4] (by decide) rfl rfl (⟨⟨_, rfl, .one .lst⟩, ⟨⟨_, rfl, .one .v⟩, ⟨⟨_, rfl, .one (.ptr rfl)⟩, ⟨⟨_, rfl, .one (.ptr rfl)⟩, ⟨⟨_, rfl, .one .v⟩, ⟨⟨_, rfl, .one .v⟩, ⟨⟨_, rfl, .one .v⟩, trivial⟩⟩⟩⟩⟩⟩⟩) (⟨⟨rfl, .inl ⟨_, _, rfl, rfl, .box ⟨.v, .v, .v, .v, .v, trivial⟩⟩⟩, ⟨⟨rfl, .inl ⟨_, _, rfl, rfl, .box ⟨(.own rfl), .v, .v, (.own rfl), (.own rfl), trivial⟩⟩⟩, ⟨⟨rfl, .inl ⟨_, _, rfl, rfl, .arr rfl⟩⟩, ⟨⟨rfl, .inl ⟨_, _, rfl, rfl, .arr rfl⟩⟩, ⟨⟨rfl, .inl ⟨_, _, rfl, rfl, .arr rfl⟩⟩, trivial⟩⟩⟩⟩⟩))⟩
                · replace H := cf H c137
                  refine T.skip ?_
                  refine T.region ?_
                  refine RunT.ot0 (x := .v (.int .i64 v97)) rfl rfl rfl rfl (.moveX rfl) ?_
                  refine RunT.ot0 (x := .v (.int .i64 (wr (v97 + 1)))) rfl rfl rfl rfl (.bin rfl rfl (fun w => b_addw w) rfl) ?_
                  refine RunT.ot0 (x := .v (.int .i64 (wr (v97 + 1)))) rfl rfl rfl rfl (.assignX rfl) ?_
                  refine RunT.nil ?_
                  exact ⟨n, Nat.lt_succ_self n, _, ⟨v91 ++ [Seat.mk o108.1 o108.2 (wr (10 * o108.1)) o116], v92, o125, o132, o108.1, o108.2, wr (v97 + 1), H, rfl⟩, (sub_to [some 0, some 1, some 2, some 3, some 4] (by decide) rfl rfl (⟨⟨_, rfl, .one .lst⟩, ⟨⟨_, rfl, .one .v⟩, ⟨⟨_, rfl, .one (.ptr rfl)⟩, ⟨⟨_, rfl, .one (.ptr rfl)⟩, ⟨⟨_, rfl, .one .v⟩, ⟨⟨_, rfl, .one .v⟩, ⟨⟨_, rfl, .one .v⟩, trivial⟩⟩⟩⟩⟩⟩⟩) (⟨⟨rfl, .inl ⟨_, _, rfl, rfl, .box ⟨.v, .v, .v, .v, .v, trivial⟩⟩⟩, ⟨⟨rfl, .inl ⟨_, _, rfl, rfl, .box ⟨(.own rfl), .v, .v, (.own rfl), (.own rfl), trivial⟩⟩⟩, ⟨⟨rfl, .inl ⟨_, _, rfl, rfl, .arr rfl⟩⟩, ⟨⟨rfl, .inl ⟨_, _, rfl, rfl, .arr rfl⟩⟩, ⟨⟨rfl, .inl ⟨_, _, rfl, rfl, .arr rfl⟩⟩, trivial⟩⟩⟩⟩⟩))⟩
      · replace H := cf H c103
        refine T.exit ?_
        obtain rfl := si H
        exact (sub_to [some 0, some 1, some 2, some 3, some 4] (by decide) rfl rfl (⟨⟨_, rfl, .one (.ptr rfl)⟩, ⟨⟨_, rfl, .one (.ptr rfl)⟩, trivial⟩⟩) (⟨⟨rfl, .inl ⟨_, _, rfl, rfl, .box ⟨.v, .v, .v, .v, .v, trivial⟩⟩⟩, ⟨⟨rfl, .inl ⟨_, _, rfl, rfl, .box ⟨(.own rfl), .v, .v, (.own rfl), (.own rfl), trivial⟩⟩⟩, ⟨⟨rfl, .inl ⟨_, _, rfl, rfl, .arr rfl⟩⟩, ⟨⟨rfl, .inl ⟨_, _, rfl, rfl, .arr rfl⟩⟩, ⟨⟨rfl, .inl ⟨_, _, rfl, rfl, .arr rfl⟩⟩, trivial⟩⟩⟩⟩⟩))
  · intro s hS
    have H := HO90
    refine T.sub hS ?_
    refine T.seq ?_
    refine T.region ?_
    refine RunT.ot0 (x := .agg [.own 2 0 o88.1.length, .v (.int .i64 10), .v (.int .i64 o88.2.1), .own 3 0 o88.2.2.1.length, .own 4 0 o88.2.2.2.length]) rfl rfl rfl rfl (.loadP ty26 rfl rfl rfl) ?_
    refine RunT.on1 (x := .junk) (p0 := (0, some (.box [.own 2 0 o88.1.length, .v (.int .i64 10), .v (.int .i64 o88.2.1), .own 3 0 o88.2.2.1.length, .own 4 0 o88.2.2.2.length]))) (n' := 16) rfl rfl rfl (.storePX ty26 rfl rfl rfl rfl rfl rfl rfl) rfl ?_
    refine RunT.nil ?_
    obtain rfl := si H
    refine T.sub (sub_to (st' := ⟨[(4, .ptr 3 0)], [(0, some (.arr false 4 (List.map eSeat o88.1))), (1, some (.arr false 1 (List.map eI o88.2.2.1))), (2, some (.arr false 3 (List.map ePole o88.2.2.2))), (3, some (.box [.own 0 0 ((List.map eSeat o88.1).length), .v (.int .i64 10), .v (.int .i64 o88.2.1), .own 1 0 ((List.map eI o88.2.2.1).length), .own 2 0 ((List.map ePole o88.2.2.2).length)]))], 8, []⟩) [some 2, some 3, some 4, some 0] (by decide) rfl rfl (⟨⟨_, rfl, .one (.ptr rfl)⟩, trivial⟩) (⟨⟨rfl, .inl ⟨_, _, rfl, rfl, .arr rfl⟩⟩, ⟨⟨rfl, .inl ⟨_, _, rfl, rfl, .arr rfl⟩⟩, ⟨⟨rfl, .inl ⟨_, _, rfl, rfl, .arr rfl⟩⟩, ⟨⟨rfl, .inl ⟨_, _, rfl, rfl, .box ⟨(.own' rfl (List.length_map _).symm), .v, .v, (.own' rfl (List.length_map _).symm), (.own' rfl (List.length_map _).symm), trivial⟩⟩⟩, trivial⟩⟩⟩⟩)) ?_
    refine T.ret ?_
    exact RetOk.same [.agg [.own 0 0 ((List.map eSeat o88.1).length), .v (.int .i64 10), .v (.int .i64 o88.2.1), .own 1 0 ((List.map eI o88.2.2.1).length), .own 2 0 ((List.map ePole o88.2.2.2).length)]] ⟨⟨3, 0, _, _, _, ty26, rfl, rfl, rfl⟩, trivial⟩ rfl rfl rfl
set_option maxHeartbeats 4000000 in
theorem slices_Index_int_pc (al : Bool) (k : Nat) (a0 : (List Int)) (a1 : Int) (o : Int) (H : slices_Index_int k a0 a1 = some o) : PC Try.prog al 147 [.lst (List.map eI a0), .v (.int .i64 a1)] (.v (.int .i64 o)) := by
  unfold slices_Index_int at H
  refine PC.of_T Try.func147 rfl rfl (n := 19) rfl rfl (.inr rfl) ?_
  intro base B w0
  refine T.st (st' := ⟨[(0, .lst (List.map eI a0)), (1, .v (.int .i64 a1))], [], 0, []⟩) rfl ?_
  refine T.seq ?_
  refine T.region ?_
  refine RunT.ot0 (x := .v (.int .i64 0)) rfl rfl rfl rfl (.assignX rfl) ?_
  refine RunT.nil ?_
  refine T.seq ?_
  refine T.seq ?_
  refine T.region ?_
  refine RunT.ot0 (x := .lst (List.map eI a0)) rfl rfl rfl rfl (.moveX rfl) ?_
  refine RunT.ot0 (x := .v (.int .i64 (a0.length : Int))) rfl rfl rfl rfl (.lenLm Try.underlying23 rfl rfl) ?_
  refine RunT.ot0 (x := .v (.int .i64 0)) rfl rfl rfl rfl (.moveX rfl) ?_
  refine RunT.nil ?_
  obtain ⟨o10, E11, HO12⟩ := bs H
  refine T.cutPE (fun v13 => o10 = .go v13) (fun v13 => ⟨[], [], 8, []⟩) ?_ ?_
  · have H := E11
    refine T.block ?_
    refine T.loopS (fun n s => ∃ (v14 : Int), slices_Index_int_l0 k a0 a1 n v14 = some o10 ∧ s = ⟨[(0, .lst (List.map eI a0)), (1, .v (.int .i64 a1)), (7, .v (.int .i64 (a0.length : Int))), (8, .v (.int .i64 v14))], [], 8, []⟩) k ⟨_, ⟨0, H, rfl⟩, sub_to [] (by decide) rfl rfl (⟨⟨_, rfl, .one .lst⟩, ⟨⟨_, rfl, .one .v⟩, ⟨⟨_, rfl, .one .v⟩, ⟨⟨_, rfl, .one .v⟩, trivial⟩⟩⟩⟩) (trivial)⟩ ?_
    rintro n s ⟨v14, H, rfl⟩
    rcases n with _ | n
    · cases (show none = some _ from H)
    rw [slices_Index_int_l0] at H
    refine T.seq ?_
    refine T.region ?_
    refine RunT.ot0 (x := .v (.bool (decide (v14 < (a0.length : Int))))) rfl rfl rfl rfl (.bin rfl rfl (fun w => b_lss w) rfl) ?_
    refine RunT.nil ?_
    refine T.seq ?_
    refine T.cond2 (t := decide (v14 < (a0.length : Int))) rfl (fun c15 => ?_) (fun c15 => ?_)
    · replace H := ct H c15
      refine T.skip ?_
      refine T.seq ?_
      refine T.block ?_
      refine T.seq ?_
      refine T.region ?_
      refine RunT.ot0 (x := .v (.int .i64 v14)) rfl rfl rfl rfl (.moveX rfl) ?_
      refine RunT.ot0 (x := .v (.int .i64 v14)) rfl rfl rfl rfl (.assignX rfl) ?_
      refine RunT.nil ?_
      refine T.seq ?_
      refine T.sub (sub_pick [0, 1, 5, 7, 8] [] (st' := ⟨[(0, .lst (List.map eI a0)), (1, .v (.int .i64 a1)), (5, .v (.int .i64 v14)), (7, .v (.int .i64 (a0.length : Int))), (8, .v (.int .i64 v14))], [], 8, []⟩) rfl rfl rfl rfl rfl) ?_
      refine T.region ?_
      refine RunT.ot0 (x := .v (.int .i64 a1)) rfl rfl rfl rfl (.moveX rfl) ?_
      refine RunT.ot0 (x := .lst (List.map eI a0)) rfl rfl rfl rfl (.moveX rfl) ?_
      refine RunT.ot0 (x := .v (.int .i64 v14)) rfl rfl rfl rfl (.moveX rfl) ?_
      obtain ⟨y16, h17, H⟩ := bs H
      refine RunT.ot0 (x := .rptr [.v (.int .i64 y16)]) rfl rfl rfl rfl (.idxLX h17 enc_I sl23 rfl rfl rfl) ?_
      refine RunT.ot0 (x := .v (.int .i64 y16)) rfl rfl rfl rfl (.loadR ty3 rfl rfl) ?_
      refine RunT.ot0 (x := .v (.bool (decide (a1 = y16)))) rfl rfl rfl rfl (.bin rfl rfl (fun w => b_eql w) rfl) ?_
      refine RunT.nil ?_
      refine T.cond2 (t := decide (a1 = y16)) rfl (fun c18 => ?_) (fun c18 => ?_)
      · replace H := ct H c18
        refine T.seq ?_
        refine T.region ?_
        refine RunT.ot0 (x := .v (.int .i64 v14)) rfl rfl rfl rfl (.moveX rfl) ?_
        refine RunT.ot0 (x := .v (.int .i64 v14)) rfl rfl rfl rfl (.assignX rfl) ?_
        refine RunT.nil ?_
        obtain rfl := si H
        have HX := exr HO12
        obtain rfl := si HX
        refine T.sub (sub_to (st' := ⟨[(4, .v (.int .i64 v14))], [], 8, []⟩) [] (by decide) rfl rfl (⟨⟨_, rfl, .one .v⟩, trivial⟩) (trivial)) ?_
        refine T.ret ?_
        exact RetOk.same [.v (.int .i64 v14)] ⟨rfl, trivial⟩ rfl rfl rfl
      · replace H := cf H c18
        refine T.skip ?_
        refine T.region ?_
        refine RunT.ot0 (x := .v (.int .i64 (wr (v14 + 1)))) rfl rfl rfl rfl (.bin rfl rfl (fun w => b_addw w) rfl) ?_
        refine RunT.ot0 (x := .v (.int .i64 (wr (v14 + 1)))) rfl rfl rfl rfl (.moveX rfl) ?_
        refine RunT.nil ?_
        exact ⟨n, Nat.lt_succ_self n, _, ⟨wr (v14 + 1), H, rfl⟩, (sub_to [] (by decide) rfl rfl (⟨⟨_, rfl, .one .lst⟩, ⟨⟨_, rfl, .one .v⟩, ⟨⟨_, rfl, .one .v⟩, ⟨⟨_, rfl, .one .v⟩, trivial⟩⟩⟩⟩) (trivial))⟩
    · replace H := cf H c15
      refine T.exit ?_
      obtain rfl := si H
      exact ⟨_, rfl, (sub_to [] (by decide) rfl rfl (trivial) (trivial))⟩
  · intro v13 s hR hS
    subst hR
    have H := exg HO12
    refine T.sub hS ?_
    refine T.seq ?_
    refine T.region ?_
    refine RunT.ot0 (x := .v (.int .i64 (-1))) rfl rfl rfl rfl (.assignX rfl) ?_
    refine RunT.nil ?_
    obtain rfl := si H
    refine T.sub (sub_to (st' := ⟨[(4, .v (.int .i64 (-1)))], [], 8, []⟩) [] (by decide) rfl rfl (⟨⟨_, rfl, .one .v⟩, trivial⟩) (trivial)) ?_
    refine T.ret ?_
    exact RetOk.same [.v (.int .i64 (-1))] ⟨rfl, trivial⟩ rfl rfl rfl
set_option maxHeartbeats 4000000 in
theorem slices_Contains_int_pc (al : Bool) (k : Nat) (a0 : (List Int)) (a1 : Int) (o : Bool) (H : slices_Contains_int k a0 a1 = some o) : PC Try.prog al 122 [.lst (List.map eI a0), .v (.int .i64 a1)] (.v (.bool o)) := by
  unfold slices_Contains_int at H
  refine PC.of_T Try.func122 rfl rfl (n := 9) rfl rfl (.inr rfl) ?_
  intro base B w0
  refine T.st (st' := ⟨[(0, .lst (List.map eI a0)), (1, .v (.int .i64 a1))], [], 0, []⟩) rfl ?_
  refine T.seq ?_
  refine T.region ?_
  refine RunT.ot0 (x := .v (.bool false)) rfl rfl rfl rfl (.assignX rfl) ?_
  refine RunT.nil ?_
  refine T.seq ?_
  refine T.region ?_
  refine RunT.ot0 (x := .lst (List.map eI a0)) rfl rfl rfl rfl (.moveX rfl) ?_
  refine RunT.ot0 (x := .v (.int .i64 a1)) rfl rfl rfl rfl (.moveX rfl) ?_
  obtain ⟨r1, h2, H⟩ := bs H
  refine RunT.ot0 (x := .v (.int .i64 r1)) rfl rfl rfl rfl (.callp (slices_Index_int_pc false k a0 a1 r1 h2) rfl ⟨(.one .lst), (.one .v), trivial⟩ rfl rfl rfl) ?_
  refine RunT.ot0 (x := .v (.bool (decide (0 ≤ r1)))) rfl rfl rfl rfl (.bin rfl rfl (fun w => b_geq w) rfl) ?_
  refine RunT.ot0 (x := .v (.bool (decide (0 ≤ r1)))) rfl rfl rfl rfl (.assignX rfl) ?_
  refine RunT.nil ?_
  obtain rfl := si H
  refine T.sub (sub_to (st' := ⟨[(4, .v (.bool (decide (0 ≤ r1))))], [], 8, []⟩) [] (by decide) rfl rfl (⟨⟨_, rfl, .one .v⟩, trivial⟩) (trivial)) ?_
  refine T.ret ?_
  exact RetOk.same [.v (.bool (decide (0 ≤ r1)))] ⟨rfl, trivial⟩ rfl rfl rfl
set_option maxHeartbeats 4000000 in
theorem kill_by_pc (al : Bool) (k : Nat) (a0 : Venue) (a1 : Int) (o : (List Int)) (H : kill_by k a0 a1 = some o) : PC Try.prog al 105 [.agg [.lst (List.map eSeat a0.Seats), .v (.int .i64 a0.Gap), .v (.int .i64 a0.Radius), .lst (List.map eI a0.Kills), .lst (List.map ePole a0.Poles)], .v (.int .i64 a1)] (.frs 1 (List.map eI o)) := by
  unfold kill_by at H
  refine PC.of_T Try.func105 rfl rfl (n := 42) rfl rfl (.inr (flat1_frs (sz := 1) fl_I)) ?_
  intro base B w0
  refine T.st (st' := ⟨[(0, .agg [.lst (List.map eSeat a0.Seats), .v (.int .i64 a0.Gap), .v (.int .i64 a0.Radius), .lst (List.map eI a0.Kills), .lst (List.map ePole a0.Poles)]), (1, .v (.int .i64 a1))], [], 0, []⟩) rfl ?_
  refine T.seq ?_
  refine T.region ?_
  refine RunT.ot1 (x := .ptr 0 0) (p0 := (0, some (.box [.lst (List.map eSeat a0.Seats), .v (.int .i64 a0.Gap), .v (.int .i64 a0.Radius), .lst (List.map eI a0.Kills), .lst (List.map ePole a0.Poles)]))) (n' := 8) rfl rfl rfl rfl (.boxX rfl rfl rfl) rfl ?_
  refine RunT.ot0 (x := .v (.slice none 0 0)) rfl rfl rfl rfl (.assignX rfl) ?_
  refine RunT.nil ?_
  refine T.seq ?_
  refine T.region ?_
  refine RunT.ot0 (x := .v (.slice none 0 0)) rfl rfl rfl rfl (.assignX rfl) ?_
  refine RunT.nil ?_
  refine T.seq ?_
  refine T.seq ?_
  refine T.region ?_
  refine RunT.ot0 (x := .ptr 0 3) rfl rfl rfl rfl (.fieldPX fl26_3 rfl rfl) ?_
  refine RunT.ot0 (x := .lst (List.map eI a0.Kills)) rfl rfl rfl rfl (.loadP ty23 rfl rfl rfl) ?_
  refine RunT.ot0 (x := .v (.int .i64 a1)) rfl rfl rfl rfl (.moveX rfl) ?_
  obtain ⟨r1, h2, H⟩ := bs H
  refine RunT.ot0 (x := .v (.bool r1)) rfl rfl rfl rfl (.callp (slices_Contains_int_pc false k a0.Kills a1 r1 h2) rfl ⟨(.one .lst), (.one .v), trivial⟩ rfl rfl rfl) ?_
  refine RunT.nil ?_
  obtain ⟨o5, E6, HO7⟩ := bs H
  refine T.cutE (⟨[(1, .v (.int .i64 a1)), (2, .ptr 0 0), (5, .own 1 0 o5.length)], [(0, some (.box [.lst (List.map eSeat a0.Seats), .v (.int .i64 a0.Gap), .v (.int .i64 a0.Radius), .lst (List.map eI a0.Kills), .lst (List.map ePole a0.Poles)])), (1, some (.arr false 1 (List.map eI o5)))], 8, []⟩) ?_ ?_
  · have H := E6
    refine T.cond2 (t := r1) rfl (fun c8 => ?_) (fun c8 => ?_)
    · replace H := ct H c8
      refine T.region ?_
      refine RunT.ot0 (x := .v (.slice none 0 0)) rfl rfl rfl rfl (.moveX rfl) ?_
      refine RunT.ot1 (x := .own 8 0 (([(-1)]).length)) (p0 := (8, some (.arr false 1 (List.map eI [(-1)])))) (n' := 16) rfl rfl rfl rfl (.bslicem (d := false) (l := [(-1)]) (f := eI) sl23 rfl rfl rfl enc_I rfl) rfl ?_
      obtain ⟨h9, H⟩ := gs H
      refine RunT.ot1 (x := .own 16 0 (([(-1)]).length)) (p0 := (16, some (.arr false 1 (List.map eI [(-1)])))) (n' := 24) rfl rfl rfl rfl (.appNm (d := false) (m := [(-1)]) (f := eI) sl23 rfl rfl (.ownn Try.underlying23 rfl rfl (fun h => by cases h)) rfl h9) rfl ?_
      refine RunT.ot0 (x := .own 16 0 (([(-1)]).length)) rfl rfl rfl rfl (.assignX rfl) ?_
      refine RunT.nil ?_
      obtain rfl := si H
      exact (sub_to [some 0, some 16] (by decide) rfl rfl (⟨⟨_, rfl, .one .v⟩, ⟨⟨_, rfl, .one (.ptr rfl)⟩, ⟨⟨_, rfl, .one (.own rfl)⟩, trivial⟩⟩⟩) (⟨⟨rfl, .inl ⟨_, _, rfl, rfl, .box ⟨.lst, .v, .v, .lst, .lst, trivial⟩⟩⟩, ⟨⟨rfl, .inl ⟨_, _, rfl, rfl, .arr rfl⟩⟩, trivial⟩⟩))
    · replace H := cf H c8
      refine T.skip ?_
      obtain rfl := si H
      exact (sub_to [some 0, none] (by decide) rfl rfl (⟨⟨_, rfl, .one .v⟩, ⟨⟨_, rfl, .one (.ptr rfl)⟩, ⟨⟨_, rfl, .one .nilO⟩, trivial⟩⟩⟩) (⟨⟨rfl, .inl ⟨_, _, rfl, rfl, .box ⟨.lst, .v, .v, .lst, .lst, trivial⟩⟩⟩, ⟨⟨rfl, .inr ⟨rfl, false, _, rfl, (by decide)⟩⟩, trivial⟩⟩))
  · intro s hS
    have H := HO7
    refine T.sub hS ?_
    refine T.seq ?_
    refine T.seq ?_
    refine T.region ?_
    refine RunT.ot0 (x := .ptr 0 4) rfl rfl rfl rfl (.fieldPX fl26_4 rfl rfl) ?_
    refine RunT.ot0 (x := .lst (List.map ePole a0.Poles)) rfl rfl rfl rfl (.loadP ty24 rfl rfl rfl) ?_
    refine RunT.ot0 (x := .v (.int .i64 (a0.Poles.length : Int))) rfl rfl rfl rfl (.lenLm Try.underlying24 rfl rfl) ?_
    refine RunT.ot0 (x := .v (.int .i64 0)) rfl rfl rfl rfl (.moveX rfl) ?_
    refine RunT.nil ?_
    obtain ⟨o30, E31, HO32⟩ := bs H
    refine T.cutE (⟨[(5, .own 0 0 o30.length)], [(0, some (.arr false 1 (List.map eI o30)))], 8, []⟩) ?_ ?_
    · have H := E31
      refine T.block ?_
      refine T.loopS (fun n s => ∃ (v33 : (List Int)) (v34 : Int), kill_by_l0 k a0 a1 n v33 v34 = some o30 ∧ s = ⟨[(1, .v (.int .i64 a1)), (2, .ptr 0 0), (5, .own 1 0 v33.length), (16, .lst (List.map ePole a0.Poles)), (17, .v (.int .i64 (a0.Poles.length : Int))), (18, .v (.int .i64 v34))], [(0, some (.box [.lst (List.map eSeat a0.Seats), .v (.int .i64 a0.Gap), .v (.int .i64 a0.Radius), .lst (List.map eI a0.Kills), .lst (List.map ePole a0.Poles)])), (1, some (.arr false 1 (List.map eI v33)))], 8, []⟩) k ⟨_, ⟨o5, 0, H, rfl⟩, sub_to [some 0, some 1] (by decide) rfl rfl (⟨⟨_, rfl, .one .v⟩, ⟨⟨_, rfl, .one (.ptr rfl)⟩, ⟨⟨_, rfl, .one (.own rfl)⟩, ⟨⟨_, rfl, .one .lst⟩, ⟨⟨_, rfl, .one .v⟩, ⟨⟨_, rfl, .one .v⟩, trivial⟩⟩⟩⟩⟩⟩) (⟨⟨rfl, .inl ⟨_, _, rfl, rfl, .box ⟨.lst, .v, .v, .lst, .lst, trivial⟩⟩⟩, ⟨⟨rfl, .inl ⟨_, _, rfl, rfl, .arr rfl⟩⟩, trivial⟩⟩)⟩ ?_
      rintro n s ⟨v33, v34, H, rfl⟩
      rcases n with _ | n
      · cases (show none = some _ from H)
      rw [kill_by_l0] at H
      refine T.seq ?_
      refine T.region ?_
      refine RunT.ot0 (x := .v (.bool (decide (v34 < (a0.Poles.length : Int))))) rfl rfl rfl rfl (.bin rfl rfl (fun w => b_lss w) rfl) ?_
      refine RunT.nil ?_
      refine T.seq ?_
      refine T.cond2 (t := decide (v34 < (a0.Poles.length : Int))) rfl (fun c35 => ?_) (fun c35 => ?_)
      · replace H := ct H c35
        refine T.skip ?_
        refine T.seq ?_
        refine T.block ?_
        refine T.seq ?_
        refine T.region ?_
        refine RunT.ot0 (x := .v (.int .i64 v34)) rfl rfl rfl rfl (.moveX rfl) ?_
        obtain ⟨y36, h37, H⟩ := bs H
        refine RunT.ot0 (x := .rptr [.v (.int .i64 y36.X), .v (.int .i64 y36.Y), .v (.int .i64 y36.R)]) rfl rfl rfl rfl (.idxLX h37 enc_Pole sl24 rfl rfl rfl) ?_
        refine RunT.ot0 (x := .agg [.v (.int .i64 y36.X), .v (.int .i64 y36.Y), .v (.int .i64 y36.R)]) rfl rfl rfl rfl (.loadR ty60 rfl rfl) ?_
        refine RunT.ot1 (x := .ptr 8 0) (p0 := (8, some (.box [.v (.int .i64 0), .v (.int .i64 0), .v (.int .i64 0)]))) (n' := 16) rfl rfl rfl rfl (.allocX in60.zero rfl rfl) rfl ?_
        refine RunT.ot0 (x := .v (.int .i64 v34)) rfl rfl rfl rfl (.assignX rfl) ?_
        refine RunT.on1 (x := .junk) (p0 := (8, some (.box [.v (.int .i64 y36.X), .v (.int .i64 y36.Y), .v (.int .i64 y36.R)]))) (n' := 24) rfl rfl rfl (.storePX ty60 rfl rfl rfl rfl rfl rfl rfl) rfl ?_
        refine RunT.nil ?_
        refine T.seq ?_
        refine T.sub (sub_pick [1, 2, 5, 6, 7, 16, 17, 18] [0, 1, 8] (st' := ⟨[(1, .v (.int .i64 a1)), (2, .ptr 0 0), (5, .own 1 0 v33.length), (6, .v (.int .i64 v34)), (7, .ptr 8 0), (16, .lst (List.map ePole a0.Poles)), (17, .v (.int .i64 (a0.Poles.length : Int))), (18, .v (.int .i64 v34))], [(0, some (.box [.lst (List.map eSeat a0.Seats), .v (.int .i64 a0.Gap), .v (.int .i64 a0.Radius), .lst (List.map eI a0.Kills), .lst (List.map ePole a0.Poles)])), (1, some (.arr false 1 (List.map eI v33))), (8, some (.box [.v (.int .i64 y36.X), .v (.int .i64 y36.Y), .v (.int .i64 y36.R)]))], 24, []⟩) rfl rfl rfl rfl rfl) ?_
        refine T.draw (wr := []) mixed rfl rfl ?_ rfl
        refine RunD.ot0 (x := .ptr 0 0) rfl rfl rfl rfl (.fieldPX fl26_0 rfl rfl) rfl ?_
        refine RunD.ot0 (x := .lst (List.map eSeat a0.Seats)) rfl rfl rfl rfl (.loadP ty22 rfl rfl rfl) rfl ?_
        refine RunD.ot0 (x := .v (.int .i64 a1)) rfl rfl rfl rfl (.moveX rfl) rfl ?_
        obtain ⟨y42, h43, H⟩ := bs H
        refine RunD.ot0 (x := .rptr [.v (.int .i64 y42.Row), .v (.int .i64 y42.X), .v (.int .i64 y42.Y), .v (.int .i64 y42.Kind)]) rfl rfl rfl rfl (.idxLX h43 enc_Seat sl22 rfl rfl rfl) rfl ?_
        refine RunD.ot0 (x := .agg [.v (.int .i64 y42.Row), .v (.int .i64 y42.X), .v (.int .i64 y42.Y), .v (.int .i64 y42.Kind)]) rfl rfl rfl rfl (.loadR ty28 rfl rfl) rfl ?_
        refine RunD.ot0 (x := .ptr 8 0) rfl rfl rfl rfl (.fieldPX fl60_0 rfl rfl) rfl ?_
        refine RunD.ot0 (x := .v (.int .i64 y36.X)) rfl rfl rfl rfl (.loadP ty3 rfl rfl rfl) rfl ?_
        refine RunD.ot0 (x := .ptr 8 1) rfl rfl rfl rfl (.fieldPX fl60_1 rfl rfl) rfl ?_
        refine RunD.ot0 (x := .v (.int .i64 y36.Y)) rfl rfl rfl rfl (.loadP ty3 rfl rfl rfl) rfl ?_
        refine RunD.ot0 (x := .agg [.v (.int .i64 0), .v (.int .i64 y36.X), .v (.int .i64 y36.Y), .v (.int .i64 0)]) rfl rfl rfl rfl (.bu bu28 rfl) rfl ?_
        refine RunD.ot0 (x := .ptr 8 2) rfl rfl rfl rfl (.fieldPX fl60_2 rfl rfl) rfl ?_
        refine RunD.ot0 (x := .v (.int .i64 y36.R)) rfl rfl rfl rfl (.loadP ty3 rfl rfl rfl) rfl ?_
        obtain ⟨r44, h45, H⟩ := bs H
        refine RunD.ot0 (x := .v (.bool r44)) rfl rfl rfl rfl (.callp (geom_Close_pc false k y42 (Seat.mk 0 y36.X y36.Y 0) y36.R r44 h45) rfl ⟨(.agg' ⟨.v, .v, .v, .v, trivial⟩), (.agg' ⟨.v, .v, .v, .v, trivial⟩), (.one .v), trivial⟩ rfl rfl rfl) rfl ?_
        refine RunD.nil (by kernel_rfl) ⟨rfl, rfl, ?_⟩
        refine T.cond2 (t := r44) rfl (fun c46 => ?_) (fun c46 => ?_)
        · replace H := ct H c46
          refine T.sub (sub_pick [1, 2, 5, 6, 16, 17, 18] [0, 1] (st' := ⟨[(1, .v (.int .i64 a1)), (2, .ptr 0 0), (5, .own 1 0 v33.length), (6, .v (.int .i64 v34)), (16, .lst (List.map ePole a0.Poles)), (17, .v (.int .i64 (a0.Poles.length : Int))), (18, .v (.int .i64 v34))], [(0, some (.box [.lst (List.map eSeat a0.Seats), .v (.int .i64 a0.Gap), .v (.int .i64 a0.Radius), .lst (List.map eI a0.Kills), .lst (List.map ePole a0.Poles)])), (1, some (.arr false 1 (List.map eI v33)))], 128, []⟩) rfl rfl rfl rfl rfl) ?_
          refine T.region ?_
          refine RunT.ot0 (x := .own 1 0 v33.length) rfl rfl rfl rfl (.moveX rfl) ?_
          refine RunT.ot0 (x := .v (.int .i64 v34)) rfl rfl rfl rfl (.moveX rfl) ?_
          refine RunT.ot1 (x := .own 128 0 (([v34]).length)) (p0 := (128, some (.arr false 1 (List.map eI [v34])))) (n' := 136) rfl rfl rfl rfl (.bslicem (d := false) (l := [v34]) (f := eI) sl23 rfl rfl rfl enc_I rfl) rfl ?_
          obtain ⟨h47, H⟩ := gs H
          refine RunT.ot2 (x := .own 136 0 ((v33 ++ [v34]).length)) (p0 := (136, some (.arr false 1 (List.map eI (v33 ++ [v34]))))) (p1 := (1, none)) (n' := 144) rfl rfl rfl rfl (.appOn (d := false) (l := v33) (m := [v34]) (f := eI) rfl sl23 rfl rfl rfl (.ownn Try.underlying23 rfl rfl (fun h => by cases h)) rfl h47) rfl ?_
          refine RunT.ot0 (x := .own 136 0 ((v33 ++ [v34]).length)) rfl rfl rfl rfl (.assignX rfl) ?_
          refine RunT.nil ?_
          refine T.region ?_
          refine RunT.ot0 (x := .v (.int .i64 (wr (v34 + 1)))) rfl rfl rfl rfl (.bin rfl rfl (fun w => b_addw w) rfl) ?_
          refine RunT.ot0 (x := .v (.int .i64 (wr (v34 + 1)))) rfl rfl rfl rfl (.moveX rfl) ?_
          refine RunT.nil ?_
          exact ⟨n, Nat.lt_succ_self n, _, ⟨v33 ++ [v34], wr (v34 + 1), H, rfl⟩, (sub_to [some 0, some 136] (by decide) rfl rfl (⟨⟨_, rfl, .one .v⟩, ⟨⟨_, rfl, .one (.ptr rfl)⟩, ⟨⟨_, rfl, .one (.own rfl)⟩, ⟨⟨_, rfl, .one .lst⟩, ⟨⟨_, rfl, .one .v⟩, ⟨⟨_, rfl, .one .v⟩, trivial⟩⟩⟩⟩⟩⟩) (⟨⟨rfl, .inl ⟨_, _, rfl, rfl, .box ⟨.lst, .v, .v, .lst, .lst, trivial⟩⟩⟩, ⟨⟨rfl, .inl ⟨_, _, rfl, rfl, .arr rfl⟩⟩, trivial⟩⟩))⟩
        · replace H := cf H c46
          refine T.skip ?_
          refine T.region ?_
          refine RunT.ot0 (x := .v (.int .i64 (wr (v34 + 1)))) rfl rfl rfl rfl (.bin rfl rfl (fun w => b_addw w) rfl) ?_
          refine RunT.ot0 (x := .v (.int .i64 (wr (v34 + 1)))) rfl rfl rfl rfl (.moveX rfl) ?_
          refine RunT.nil ?_
          exact ⟨n, Nat.lt_succ_self n, _, ⟨v33, wr (v34 + 1), H, rfl⟩, (sub_to [some 0, some 1] (by decide) rfl rfl (⟨⟨_, rfl, .one .v⟩, ⟨⟨_, rfl, .one (.ptr rfl)⟩, ⟨⟨_, rfl, .one (.own rfl)⟩, ⟨⟨_, rfl, .one .lst⟩, ⟨⟨_, rfl, .one .v⟩, ⟨⟨_, rfl, .one .v⟩, trivial⟩⟩⟩⟩⟩⟩) (⟨⟨rfl, .inl ⟨_, _, rfl, rfl, .box ⟨.lst, .v, .v, .lst, .lst, trivial⟩⟩⟩, ⟨⟨rfl, .inl ⟨_, _, rfl, rfl, .arr rfl⟩⟩, trivial⟩⟩))⟩
      · replace H := cf H c35
        refine T.exit ?_
        obtain rfl := si H
        exact (sub_to [some 1] (by decide) rfl rfl (⟨⟨_, rfl, .one (.own rfl)⟩, trivial⟩) (⟨⟨rfl, .inl ⟨_, _, rfl, rfl, .arr rfl⟩⟩, trivial⟩))
    · intro s hS
      have H := HO32
      refine T.sub hS ?_
      refine T.seq ?_
      refine T.region ?_
      refine RunT.ot0 (x := .own 0 0 o30.length) rfl rfl rfl rfl (.moveX rfl) ?_
      refine RunT.ot0 (x := .own 0 0 o30.length) rfl rfl rfl rfl (.assignX rfl) ?_
      refine RunT.nil ?_
      obtain rfl := si H
      refine T.sub (sub_to (st' := ⟨[(4, .own 0 0 ((List.map eI o30).length))], [(0, some (.arr false 1 (List.map eI o30)))], 8, []⟩) [some 0] (by decide) rfl rfl (⟨⟨_, rfl, .one (.own' rfl (List.length_map _).symm)⟩, trivial⟩) (⟨⟨rfl, .inl ⟨_, _, rfl, rfl, .arr rfl⟩⟩, trivial⟩)) ?_
      refine T.ret ?_
      exact RetOk.same [.own 0 0 ((List.map eI o30).length)] ⟨rfl, trivial⟩ rfl rfl rfl
set_option maxHeartbeats 4000000 in
theorem kill_Usable_pc (al : Bool) (k : Nat) (a0 : Venue) (o : (List Bool)) (H : kill_Usable k a0 = some o) : PC Try.prog al 54 [.agg [.lst (List.map eSeat a0.Seats), .v (.int .i64 a0.Gap), .v (.int .i64 a0.Radius), .lst (List.map eI a0.Kills), .lst (List.map ePole a0.Poles)]] (.frs 1 (List.map eB o)) := by
  unfold kill_Usable at H
  refine PC.of_T Try.func54 rfl rfl (n := 27) rfl rfl (.inr (flat1_frs (sz := 1) fl_B)) ?_
  intro base B w0
  refine T.st (st' := ⟨[(0, .agg [.lst (List.map eSeat a0.Seats), .v (.int .i64 a0.Gap), .v (.int .i64 a0.Radius), .lst (List.map eI a0.Kills), .lst (List.map ePole a0.Poles)])], [], 0, []⟩) rfl ?_
  refine T.seq ?_
  refine T.region ?_
  refine RunT.ot1 (x := .ptr 0 0) (p0 := (0, some (.box [.lst (List.map eSeat a0.Seats), .v (.int .i64 a0.Gap), .v (.int .i64 a0.Radius), .lst (List.map eI a0.Kills), .lst (List.map ePole a0.Poles)]))) (n' := 8) rfl rfl rfl rfl (.boxX rfl rfl rfl) rfl ?_
  refine RunT.ot0 (x := .v (.slice none 0 0)) rfl rfl rfl rfl (.assignX rfl) ?_
  refine RunT.nil ?_
  refine T.seq ?_
  refine T.seq ?_
  refine T.region ?_
  refine RunT.ot0 (x := .agg [.lst (List.map eSeat a0.Seats), .v (.int .i64 a0.Gap), .v (.int .i64 a0.Radius), .lst (List.map eI a0.Kills), .lst (List.map ePole a0.Poles)]) rfl rfl rfl rfl (.loadP ty26 rfl rfl rfl) ?_
  obtain ⟨r1, h2, H⟩ := bs H
  refine RunT.ot0 (x := .v (.bool r1)) rfl rfl rfl rfl (.callp (venue_May_pc false k a0 r1 h2) rfl ⟨(.agg' ⟨.lst, .v, .v, .lst, .lst, trivial⟩), trivial⟩ rfl rfl rfl) ?_
  refine RunT.ot0 (x := .v (.bool (!r1))) rfl rfl rfl rfl (.un rfl (fun w => u_not w) rfl) ?_
  refine RunT.nil ?_
  refine T.cond2 (t := !r1) rfl (fun c3 => ?_) (fun c3 => ?_)
  · replace H := ct H c3
    refine T.seq ?_
    refine T.region ?_
    refine RunT.ot0 (x := .v (.slice none 0 0)) rfl rfl rfl rfl (.assignX rfl) ?_
    refine RunT.nil ?_
    obtain rfl := si H
    refine T.sub (sub_to (st' := ⟨[(2, .own 0 0 0)], [(0, some (.arr false 1 (List.map eB [])))], 8, []⟩) [none] (by decide) rfl rfl (⟨⟨_, rfl, .one .nilO⟩, trivial⟩) (⟨⟨rfl, .inr ⟨rfl, false, _, rfl, (by decide)⟩⟩, trivial⟩)) ?_
    refine T.ret ?_
    exact RetOk.same [.own 0 0 0] ⟨rfl, trivial⟩ rfl rfl rfl
  · replace H := cf H c3
    refine T.skip ?_
    refine T.seq ?_
    refine T.region ?_
    refine RunT.ot0 (x := .ptr 0 0) rfl rfl rfl rfl (.fieldPX fl26_0 rfl rfl) ?_
    refine RunT.ot0 (x := .lst (List.map eSeat a0.Seats)) rfl rfl rfl rfl (.loadP ty22 rfl rfl rfl) ?_
    refine RunT.ot0 (x := .v (.int .i64 (a0.Seats.length : Int))) rfl rfl rfl rfl (.lenLm Try.underlying22 rfl rfl) ?_
    obtain ⟨h4, H⟩ := gs H
    refine RunT.ot1 (x := .own 8 0 ((List.replicate (a0.Seats.length : Int).toNat false).length)) (p0 := (8, some (.arr false 1 (List.map eB (List.replicate (a0.Seats.length : Int).toNat false))))) (n' := 16) rfl rfl rfl rfl (.mkslicem (d := false) (z' := false) (f := eB) sl43 rfl rfl in4.zero rfl enc_B h4) rfl ?_
    refine RunT.ot0 (x := .own 8 0 ((List.replicate (a0.Seats.length : Int).toNat false).length)) rfl rfl rfl rfl (.assignX rfl) ?_
    refine RunT.nil ?_
    refine T.seq ?_
    refine T.seq ?_
    refine T.region ?_
    refine RunT.ot0 (x := .own 8 0 ((List.replicate (a0.Seats.length : Int).toNat false).length)) rfl rfl rfl rfl (.moveX rfl) ?_
    refine RunT.ot0 (x := .v (.int .i64 ((List.replicate (a0.Seats.length : Int).toNat false).length : Int))) rfl rfl rfl rfl (.lenON rfl Try.underlying43 rfl rfl) ?_
    refine RunT.ot0 (x := .v (.int .i64 0)) rfl rfl rfl rfl (.moveX rfl) ?_
    refine RunT.nil ?_
    obtain ⟨o17, E18, HO19⟩ := bs H
    refine T.cutE (⟨[(3, .own 0 0 o17.length)], [(0, some (.arr false 1 (List.map eB o17)))], 8, []⟩) ?_ ?_
    · have H := E18
      refine T.block ?_
      refine T.loopS (fun n s => ∃ (v20 : (List Bool)) (v21 : Int), kill_Usable_l0 k a0 n v20 v21 = some o17 ∧ s = ⟨[(1, .ptr 0 0), (3, .own 1 0 v20.length), (13, .v (.int .i64 ((List.replicate (a0.Seats.length : Int).toNat false).length : Int))), (14, .v (.int .i64 v21))], [(0, some (.box [.lst (List.map eSeat a0.Seats), .v (.int .i64 a0.Gap), .v (.int .i64 a0.Radius), .lst (List.map eI a0.Kills), .lst (List.map ePole a0.Poles)])), (1, some (.arr false 1 (List.map eB v20)))], 8, []⟩) k ⟨_, ⟨List.replicate (a0.Seats.length : Int).toNat false, 0, H, rfl⟩, sub_to [some 0, some 8] (by decide) rfl rfl (⟨⟨_, rfl, .one (.ptr rfl)⟩, ⟨⟨_, rfl, .one (.own rfl)⟩, ⟨⟨_, rfl, .one .v⟩, ⟨⟨_, rfl, .one .v⟩, trivial⟩⟩⟩⟩) (⟨⟨rfl, .inl ⟨_, _, rfl, rfl, .box ⟨.lst, .v, .v, .lst, .lst, trivial⟩⟩⟩, ⟨⟨rfl, .inl ⟨_, _, rfl, rfl, .arr rfl⟩⟩, trivial⟩⟩)⟩ ?_
      rintro n s ⟨v20, v21, H, rfl⟩
      rcases n with _ | n
      · cases (show none = some _ from H)
      rw [kill_Usable_l0] at H
      refine T.seq ?_
      refine T.region ?_
      refine RunT.ot0 (x := .v (.bool (decide (v21 < ((List.replicate (a0.Seats.length : Int).toNat false).length : Int))))) rfl rfl rfl rfl (.bin rfl rfl (fun w => b_lss w) rfl) ?_
      refine RunT.nil ?_
      refine T.seq ?_
      refine T.cond2 (t := decide (v21 < ((List.replicate (a0.Seats.length : Int).toNat false).length : Int))) rfl (fun c22 => ?_) (fun c22 => ?_)
      · replace H := ct H c22
        refine T.skip ?_
        refine T.seq ?_
        refine T.block ?_
        refine T.seq ?_
        refine T.region ?_
        refine RunT.ot0 (x := .v (.int .i64 v21)) rfl rfl rfl rfl (.moveX rfl) ?_
        refine RunT.ot0 (x := .v (.int .i64 v21)) rfl rfl rfl rfl (.assignX rfl) ?_
        refine RunT.nil ?_
        refine T.region ?_
        refine RunT.ot0 (x := .own 1 0 v20.length) rfl rfl rfl rfl (.moveX rfl) ?_
        refine RunT.ot0 (x := .v (.int .i64 v21)) rfl rfl rfl rfl (.moveX rfl) ?_
        refine RunT.ot0 (x := .agg [.lst (List.map eSeat a0.Seats), .v (.int .i64 a0.Gap), .v (.int .i64 a0.Radius), .lst (List.map eI a0.Kills), .lst (List.map ePole a0.Poles)]) rfl rfl rfl rfl (.loadP ty26 rfl rfl rfl) ?_
        refine RunT.ot0 (x := .v (.int .i64 v21)) rfl rfl rfl rfl (.moveX rfl) ?_
        obtain ⟨r23, h24, H⟩ := bs H
        refine RunT.ot0 (x := .lst (List.map eI r23)) rfl rfl rfl rfl (.callp (PC.frozen (kill_by_pc false k a0 v21 r23 h24)) rfl ⟨(.agg' ⟨.lst, .v, .v, .lst, .lst, trivial⟩), (.one .v), trivial⟩ rfl rfl rfl) ?_
        refine RunT.ot0 (x := .v (.int .i64 (r23.length : Int))) rfl rfl rfl rfl (.lenLm Try.underlying23 rfl rfl) ?_
        refine RunT.ot0 (x := .v (.bool (decide ((r23.length : Int) = 0)))) rfl rfl rfl rfl (.bin rfl rfl (fun w => b_eql w) rfl) ?_
        obtain ⟨y25, h26, H⟩ := bs H
        refine RunT.ot0 (x := .eptr 1 v21.toNat 0) rfl rfl rfl rfl (.idxOn rfl sl43 rfl rfl rfl h26) ?_
        refine RunT.on1 (x := .junk) (p0 := (1, some (.arr false 1 (List.map eB (v20.set v21.toNat (decide ((r23.length : Int) = 0))))))) (n' := 16) rfl rfl rfl (.storeEm (z' := decide ((r23.length : Int) = 0)) ty4 rfl rfl rfl rfl rfl (ixs h26).2.1 rfl (fun _ => rfl) rfl) rfl ?_
        refine RunT.nil ?_
        refine T.region ?_
        refine RunT.ot0 (x := .v (.int .i64 (wr (v21 + 1)))) rfl rfl rfl rfl (.bin rfl rfl (fun w => b_addw w) rfl) ?_
        refine RunT.ot0 (x := .v (.int .i64 (wr (v21 + 1)))) rfl rfl rfl rfl (.moveX rfl) ?_
        refine RunT.nil ?_
        exact ⟨n, Nat.lt_succ_self n, _, ⟨v20.set v21.toNat (decide ((r23.length : Int) = 0)), wr (v21 + 1), H, rfl⟩, (sub_to [some 0, some 1] (by decide) rfl rfl (⟨⟨_, rfl, .one (.ptr rfl)⟩, ⟨⟨_, rfl, .one (.own' rfl (List.length_set ..).symm)⟩, ⟨⟨_, rfl, .one .v⟩, ⟨⟨_, rfl, .one .v⟩, trivial⟩⟩⟩⟩) (⟨⟨rfl, .inl ⟨_, _, rfl, rfl, .box ⟨.lst, .v, .v, .lst, .lst, trivial⟩⟩⟩, ⟨⟨rfl, .inl ⟨_, _, rfl, rfl, .arr rfl⟩⟩, trivial⟩⟩))⟩
      · replace H := cf H c22
        refine T.exit ?_
        obtain rfl := si H
        exact (sub_to [some 1] (by decide) rfl rfl (⟨⟨_, rfl, .one (.own rfl)⟩, trivial⟩) (⟨⟨rfl, .inl ⟨_, _, rfl, rfl, .arr rfl⟩⟩, trivial⟩))
    · intro s hS
      have H := HO19
      refine T.sub hS ?_
      refine T.seq ?_
      refine T.sub (sub_pick [3] [0] (st' := ⟨[(3, .own 0 0 o17.length)], [(0, some (.arr false 1 (List.map eB o17)))], 8, []⟩) rfl rfl rfl rfl rfl) ?_
      refine T.region ?_
      refine RunT.ot0 (x := .own 0 0 o17.length) rfl rfl rfl rfl (.moveX rfl) ?_
      refine RunT.ot0 (x := .own 0 0 o17.length) rfl rfl rfl rfl (.assignX rfl) ?_
      refine RunT.nil ?_
      obtain rfl := si H
      refine T.sub (sub_to (st' := ⟨[(2, .own 0 0 ((List.map eB o17).length))], [(0, some (.arr false 1 (List.map eB o17)))], 8, []⟩) [some 0] (by decide) rfl rfl (⟨⟨_, rfl, .one (.own' rfl (List.length_map _).symm)⟩, trivial⟩) (⟨⟨rfl, .inl ⟨_, _, rfl, rfl, .arr rfl⟩⟩, trivial⟩)) ?_
      refine T.ret ?_
      exact RetOk.same [.own 0 0 ((List.map eB o17).length)] ⟨rfl, trivial⟩ rfl rfl rfl
set_option maxHeartbeats 4000000 in
theorem kill_Killed_pc (al : Bool) (k : Nat) (a0 : Venue) (o : (List Int)) (H : kill_Killed k a0 = some o) : PC Try.prog al 55 [.agg [.lst (List.map eSeat a0.Seats), .v (.int .i64 a0.Gap), .v (.int .i64 a0.Radius), .lst (List.map eI a0.Kills), .lst (List.map ePole a0.Poles)]] (.frs 1 (List.map eI o)) := by
  unfold kill_Killed at H
  refine PC.of_T Try.func55 rfl rfl (n := 22) rfl rfl (.inr (flat1_frs (sz := 1) fl_I)) ?_
  intro base B w0
  refine T.st (st' := ⟨[(0, .agg [.lst (List.map eSeat a0.Seats), .v (.int .i64 a0.Gap), .v (.int .i64 a0.Radius), .lst (List.map eI a0.Kills), .lst (List.map ePole a0.Poles)])], [], 0, []⟩) rfl ?_
  refine T.seq ?_
  refine T.region ?_
  refine RunT.ot1 (x := .ptr 0 0) (p0 := (0, some (.box [.lst (List.map eSeat a0.Seats), .v (.int .i64 a0.Gap), .v (.int .i64 a0.Radius), .lst (List.map eI a0.Kills), .lst (List.map ePole a0.Poles)]))) (n' := 8) rfl rfl rfl rfl (.boxX rfl rfl rfl) rfl ?_
  refine RunT.ot0 (x := .v (.slice none 0 0)) rfl rfl rfl rfl (.assignX rfl) ?_
  refine RunT.nil ?_
  refine T.seq ?_
  refine T.region ?_
  refine RunT.ot0 (x := .v (.slice none 0 0)) rfl rfl rfl rfl (.assignX rfl) ?_
  refine RunT.nil ?_
  refine T.seq ?_
  refine T.seq ?_
  refine T.region ?_
  refine RunT.ot0 (x := .agg [.lst (List.map eSeat a0.Seats), .v (.int .i64 a0.Gap), .v (.int .i64 a0.Radius), .lst (List.map eI a0.Kills), .lst (List.map ePole a0.Poles)]) rfl rfl rfl rfl (.loadP ty26 rfl rfl rfl) ?_
  obtain ⟨r1, h2, H⟩ := bs H
  refine RunT.ot0 (x := .lst (List.map eB r1)) rfl rfl rfl rfl (.callp (PC.frozen (kill_Usable_pc false k a0 r1 h2)) rfl ⟨(.agg' ⟨.lst, .v, .v, .lst, .lst, trivial⟩), trivial⟩ rfl rfl rfl) ?_
  refine RunT.ot0 (x := .v (.int .i64 (r1.length : Int))) rfl rfl rfl rfl (.lenLm Try.underlying43 rfl rfl) ?_
  refine RunT.ot0 (x := .v (.int .i64 0)) rfl rfl rfl rfl (.moveX rfl) ?_
  refine RunT.nil ?_
  obtain ⟨o15, E16, HO17⟩ := bs H
  refine T.cutE (⟨[(3, .own 0 0 o15.length)], [(0, some (.arr false 1 (List.map eI o15)))], 8, []⟩) ?_ ?_
  · have H := E16
    refine T.block ?_
    refine T.loopS (fun n s => ∃ (v18 : (List Int)) (v19 : Int), kill_Killed_l0 k r1 n v18 v19 = some o15 ∧ s = ⟨[(3, .own 0 0 v18.length), (7, .lst (List.map eB r1)), (8, .v (.int .i64 (r1.length : Int))), (9, .v (.int .i64 v19))], [(0, some (.arr false 1 (List.map eI v18)))], 8, []⟩) k ⟨_, ⟨[], 0, H, rfl⟩, sub_to [none] (by decide) rfl rfl (⟨⟨_, rfl, .one .nilO⟩, ⟨⟨_, rfl, .one .lst⟩, ⟨⟨_, rfl, .one .v⟩, ⟨⟨_, rfl, .one .v⟩, trivial⟩⟩⟩⟩) (⟨⟨rfl, .inr ⟨rfl, false, _, rfl, (by decide)⟩⟩, trivial⟩)⟩ ?_
    rintro n s ⟨v18, v19, H, rfl⟩
    rcases n with _ | n
    · cases (show none = some _ from H)
    rw [kill_Killed_l0] at H
    refine T.seq ?_
    refine T.region ?_
    refine RunT.ot0 (x := .v (.bool (decide (v19 < (r1.length : Int))))) rfl rfl rfl rfl (.bin rfl rfl (fun w => b_lss w) rfl) ?_
    refine RunT.nil ?_
    refine T.seq ?_
    refine T.cond2 (t := decide (v19 < (r1.length : Int))) rfl (fun c20 => ?_) (fun c20 => ?_)
    · replace H := ct H c20
      refine T.skip ?_
      refine T.seq ?_
      refine T.block ?_
      refine T.seq ?_
      refine T.region ?_
      refine RunT.ot0 (x := .v (.int .i64 v19)) rfl rfl rfl rfl (.moveX rfl) ?_
      obtain ⟨y21, h22, H⟩ := bs H
      refine RunT.ot0 (x := .rptr [.v (.bool y21)]) rfl rfl rfl rfl (.idxLX h22 enc_B sl43 rfl rfl rfl) ?_
      refine RunT.ot0 (x := .v (.bool y21)) rfl rfl rfl rfl (.loadR ty4 rfl rfl) ?_
      refine RunT.ot0 (x := .v (.int .i64 v19)) rfl rfl rfl rfl (.assignX rfl) ?_
      refine RunT.ot0 (x := .v (.bool y21)) rfl rfl rfl rfl (.assignX rfl) ?_
      refine RunT.nil ?_
      refine T.seq ?_
      refine T.region ?_
      refine RunT.ot0 (x := .v (.bool y21)) rfl rfl rfl rfl (.moveX rfl) ?_
      refine RunT.ot0 (x := .v (.bool (!y21))) rfl rfl rfl rfl (.un rfl (fun w => u_not w) rfl) ?_
      refine RunT.nil ?_
      refine T.cond2 (t := !y21) rfl (fun c23 => ?_) (fun c23 => ?_)
      · replace H := ct H c23
        refine T.region ?_
        refine RunT.ot0 (x := .own 0 0 v18.length) rfl rfl rfl rfl (.moveX rfl) ?_
        refine RunT.ot0 (x := .v (.int .i64 v19)) rfl rfl rfl rfl (.moveX rfl) ?_
        refine RunT.ot1 (x := .own 8 0 (([v19]).length)) (p0 := (8, some (.arr false 1 (List.map eI [v19])))) (n' := 16) rfl rfl rfl rfl (.bslicem (d := false) (l := [v19]) (f := eI) sl23 rfl rfl rfl enc_I rfl) rfl ?_
        obtain ⟨h24, H⟩ := gs H
        refine RunT.ot2 (x := .own 16 0 ((v18 ++ [v19]).length)) (p0 := (16, some (.arr false 1 (List.map eI (v18 ++ [v19]))))) (p1 := (0, none)) (n' := 24) rfl rfl rfl rfl (.appOn (d := false) (l := v18) (m := [v19]) (f := eI) rfl sl23 rfl rfl rfl (.ownn Try.underlying23 rfl rfl (fun h => by cases h)) rfl h24) rfl ?_
        refine RunT.ot0 (x := .own 16 0 ((v18 ++ [v19]).length)) rfl rfl rfl rfl (.assignX rfl) ?_
        refine RunT.nil ?_
        refine T.sub (sub_pick [3, 7, 8, 9] [16] (st' := ⟨[(3, .own 16 0 ((v18 ++ [v19]).length)), (7, .lst (List.map eB r1)), (8, .v (.int .i64 (r1.length : Int))), (9, .v (.int .i64 v19))], [(16, some (.arr false 1 (List.map eI (v18 ++ [v19]))))], 24, []⟩) rfl rfl rfl rfl rfl) ?_
        refine T.region ?_
        refine RunT.ot0 (x := .v (.int .i64 (wr (v19 + 1)))) rfl rfl rfl rfl (.bin rfl rfl (fun w => b_addw w) rfl) ?_
        refine RunT.ot0 (x := .v (.int .i64 (wr (v19 + 1)))) rfl rfl rfl rfl (.moveX rfl) ?_
        refine RunT.nil ?_
        exact ⟨n, Nat.lt_succ_self n, _, ⟨v18 ++ [v19], wr (v19 + 1), H, rfl⟩, (sub_to [some 16] (by decide) rfl rfl (⟨⟨_, rfl, .one (.own rfl)⟩, ⟨⟨_, rfl, .one .lst⟩, ⟨⟨_, rfl, .one .v⟩, ⟨⟨_, rfl, .one .v⟩, trivial⟩⟩⟩⟩) (⟨⟨rfl, .inl ⟨_, _, rfl, rfl, .arr rfl⟩⟩, trivial⟩))⟩
      · replace H := cf H c23
        refine T.skip ?_
        refine T.region ?_
        refine RunT.ot0 (x := .v (.int .i64 (wr (v19 + 1)))) rfl rfl rfl rfl (.bin rfl rfl (fun w => b_addw w) rfl) ?_
        refine RunT.ot0 (x := .v (.int .i64 (wr (v19 + 1)))) rfl rfl rfl rfl (.moveX rfl) ?_
        refine RunT.nil ?_
        exact ⟨n, Nat.lt_succ_self n, _, ⟨v18, wr (v19 + 1), H, rfl⟩, (sub_to [some 0] (by decide) rfl rfl (⟨⟨_, rfl, .one (.own rfl)⟩, ⟨⟨_, rfl, .one .lst⟩, ⟨⟨_, rfl, .one .v⟩, ⟨⟨_, rfl, .one .v⟩, trivial⟩⟩⟩⟩) (⟨⟨rfl, .inl ⟨_, _, rfl, rfl, .arr rfl⟩⟩, trivial⟩))⟩
    · replace H := cf H c20
      refine T.exit ?_
      obtain rfl := si H
      exact (sub_to [some 0] (by decide) rfl rfl (⟨⟨_, rfl, .one (.own rfl)⟩, trivial⟩) (⟨⟨rfl, .inl ⟨_, _, rfl, rfl, .arr rfl⟩⟩, trivial⟩))
  · intro s hS
    have H := HO17
    refine T.sub hS ?_
    refine T.seq ?_
    refine T.region ?_
    refine RunT.ot0 (x := .own 0 0 o15.length) rfl rfl rfl rfl (.moveX rfl) ?_
    refine RunT.ot0 (x := .own 0 0 o15.length) rfl rfl rfl rfl (.assignX rfl) ?_
    refine RunT.nil ?_
    obtain rfl := si H
    refine T.sub (sub_to (st' := ⟨[(2, .own 0 0 ((List.map eI o15).length))], [(0, some (.arr false 1 (List.map eI o15)))], 8, []⟩) [some 0] (by decide) rfl rfl (⟨⟨_, rfl, .one (.own' rfl (List.length_map _).symm)⟩, trivial⟩) (⟨⟨rfl, .inl ⟨_, _, rfl, rfl, .arr rfl⟩⟩, trivial⟩)) ?_
    refine T.ret ?_
    exact RetOk.same [.own 0 0 ((List.map eI o15).length)] ⟨rfl, trivial⟩ rfl rfl rfl
set_option maxHeartbeats 4000000 in
theorem kill_By_pc (al : Bool) (k : Nat) (a0 : Venue) (a1 : Int) (o : (List Int)) (H : kill_By k a0 a1 = some o) : PC Try.prog al 56 [.agg [.lst (List.map eSeat a0.Seats), .v (.int .i64 a0.Gap), .v (.int .i64 a0.Radius), .lst (List.map eI a0.Kills), .lst (List.map ePole a0.Poles)], .v (.int .i64 a1)] (.frs 1 (List.map eI o)) := by
  unfold kill_By at H
  refine PC.of_T Try.func56 rfl rfl (n := 21) rfl rfl (.inr (flat1_frs (sz := 1) fl_I)) ?_
  intro base B w0
  refine T.st (st' := ⟨[(0, .agg [.lst (List.map eSeat a0.Seats), .v (.int .i64 a0.Gap), .v (.int .i64 a0.Radius), .lst (List.map eI a0.Kills), .lst (List.map ePole a0.Poles)]), (1, .v (.int .i64 a1))], [], 0, []⟩) rfl ?_
  refine T.seq ?_
  refine T.region ?_
  refine RunT.ot1 (x := .ptr 0 0) (p0 := (0, some (.box [.lst (List.map eSeat a0.Seats), .v (.int .i64 a0.Gap), .v (.int .i64 a0.Radius), .lst (List.map eI a0.Kills), .lst (List.map ePole a0.Poles)]))) (n' := 8) rfl rfl rfl rfl (.boxX rfl rfl rfl) rfl ?_
  refine RunT.ot0 (x := .v (.slice none 0 0)) rfl rfl rfl rfl (.assignX rfl) ?_
  refine RunT.nil ?_
  obtain ⟨o6, E7, HO8⟩ := bs H
  refine T.cutP (fun v9 => o6 = .go v9) (fun v9 => ⟨[(1, .v (.int .i64 a1)), (2, .ptr 0 0)], [(0, some (.box [.lst (List.map eSeat a0.Seats), .v (.int .i64 a0.Gap), .v (.int .i64 a0.Radius), .lst (List.map eI a0.Kills), .lst (List.map ePole a0.Poles)]))], 8, []⟩) ?_ ?_
  · have H := E7
    refine T.block ?_
    refine T.seq ?_
    refine T.block ?_
    refine T.seq ?_
    refine T.block ?_
    refine T.block ?_
    refine T.seq ?_
    refine T.seq ?_
    refine T.seq ?_
    refine T.region ?_
    refine RunT.ot0 (x := .v (.int .i64 a1)) rfl rfl rfl rfl (.moveX rfl) ?_
    refine RunT.ot0 (x := .v (.bool (decide (a1 < 0)))) rfl rfl rfl rfl (.bin rfl rfl (fun w => b_lss w) rfl) ?_
    refine RunT.ot0 (x := .v (.bool (decide (a1 < 0)))) rfl rfl rfl rfl (.assignX rfl) ?_
    refine RunT.nil ?_
    refine T.cond2 (t := decide (a1 < 0)) rfl (fun c10 => ?_) (fun c10 => ?_)
    · replace H := ct H c10
      refine T.exit ?_
      refine T.seq ?_
      refine T.seq ?_
      refine T.region ?_
      refine RunT.ot0 (x := .v (.slice none 0 0)) rfl rfl rfl rfl (.assignX rfl) ?_
      refine RunT.nil ?_
      obtain rfl := si H
      have HX := exr HO8
      obtain rfl := si HX
      refine T.sub (sub_to (st' := ⟨[(4, .own 0 0 0)], [(0, some (.arr false 1 (List.map eI [])))], 8, []⟩) [none] (by decide) rfl rfl (⟨⟨_, rfl, .one .nilO⟩, trivial⟩) (⟨⟨rfl, .inr ⟨rfl, false, _, rfl, (by decide)⟩⟩, trivial⟩)) ?_
      refine T.ret ?_
      exact RetOk.same [.own 0 0 0] ⟨rfl, trivial⟩ rfl rfl rfl
    · replace H := cf H c10
      refine T.skip ?_
      refine T.seq ?_
      refine T.seq ?_
      refine T.region ?_
      refine RunT.ot0 (x := .v (.int .i64 a1)) rfl rfl rfl rfl (.moveX rfl) ?_
      refine RunT.ot0 (x := .ptr 0 0) rfl rfl rfl rfl (.fieldPX fl26_0 rfl rfl) ?_
      refine RunT.ot0 (x := .lst (List.map eSeat a0.Seats)) rfl rfl rfl rfl (.loadP ty22 rfl rfl rfl) ?_
      refine RunT.ot0 (x := .v (.int .i64 (a0.Seats.length : Int))) rfl rfl rfl rfl (.lenLm Try.underlying22 rfl rfl) ?_
      refine RunT.ot0 (x := .v (.bool (decide ((a0.Seats.length : Int) ≤ a1)))) rfl rfl rfl rfl (.bin rfl rfl (fun w => b_geq w) rfl) ?_
      refine RunT.ot0 (x := .v (.bool (decide ((a0.Seats.length : Int) ≤ a1)))) rfl rfl rfl rfl (.assignX rfl) ?_
      refine RunT.nil ?_
      refine T.cond2 (t := decide ((a0.Seats.length : Int) ≤ a1)) rfl (fun c11 => ?_) (fun c11 => ?_)
      · replace H := ct H c11
        refine T.exit ?_
        refine T.seq ?_
        refine T.seq ?_
        refine T.region ?_
        refine RunT.ot0 (x := .v (.slice none 0 0)) rfl rfl rfl rfl (.assignX rfl) ?_
        refine RunT.nil ?_
        obtain rfl := si H
        have HX := exr HO8
        obtain rfl := si HX
        refine T.sub (sub_to (st' := ⟨[(4, .own 0 0 0)], [(0, some (.arr false 1 (List.map eI [])))], 8, []⟩) [none] (by decide) rfl rfl (⟨⟨_, rfl, .one .nilO⟩, trivial⟩) (⟨⟨rfl, .inr ⟨rfl, false, _, rfl, (by decide)⟩⟩, trivial⟩)) ?_
        refine T.ret ?_
        exact RetOk.same [.own 0 0 0] ⟨rfl, trivial⟩ rfl rfl rfl
      · replace H := cf H c11
        refine T.skip ?_
        refine T.seq ?_
        refine T.region ?_
        refine RunT.ot0 (x := .agg [.lst (List.map eSeat a0.Seats), .v (.int .i64 a0.Gap), .v (.int .i64 a0.Radius), .lst (List.map eI a0.Kills), .lst (List.map ePole a0.Poles)]) rfl rfl rfl rfl (.loadP ty26 rfl rfl rfl) ?_
        obtain ⟨r12, h13, H⟩ := bs H
        refine RunT.ot0 (x := .v (.bool r12)) rfl rfl rfl rfl (.callp (venue_May_pc false k a0 r12 h13) rfl ⟨(.agg' ⟨.lst, .v, .v, .lst, .lst, trivial⟩), trivial⟩ rfl rfl rfl) ?_
        refine RunT.ot0 (x := .v (.bool (!r12))) rfl rfl rfl rfl (.un rfl (fun w => u_not w) rfl) ?_
        refine RunT.ot0 (x := .v (.bool (!r12))) rfl rfl rfl rfl (.assignX rfl) ?_
        refine RunT.nil ?_
        refine T.cond2 (t := !r12) rfl (fun c14 => ?_) (fun c14 => ?_)
        · replace H := ct H c14
          refine T.exit ?_
          refine T.seq ?_
          refine T.seq ?_
          refine T.sub (sub_pick [] [] (st' := ⟨[], [], 8, []⟩) rfl rfl rfl rfl rfl) ?_
          refine T.region ?_
          refine RunT.ot0 (x := .v (.slice none 0 0)) rfl rfl rfl rfl (.assignX rfl) ?_
          refine RunT.nil ?_
          obtain rfl := si H
          have HX := exr HO8
          obtain rfl := si HX
          refine T.sub (sub_to (st' := ⟨[(4, .own 0 0 0)], [(0, some (.arr false 1 (List.map eI [])))], 8, []⟩) [none] (by decide) rfl rfl (⟨⟨_, rfl, .one .nilO⟩, trivial⟩) (⟨⟨rfl, .inr ⟨rfl, false, _, rfl, (by decide)⟩⟩, trivial⟩)) ?_
          refine T.ret ?_
          exact RetOk.same [.own 0 0 0] ⟨rfl, trivial⟩ rfl rfl rfl
        · replace H := cf H c14
          refine T.skip ?_
          refine T.exit ?_
          obtain rfl := si H
          exact ⟨_, rfl, (sub_to [some 0] (by decide) rfl rfl (⟨⟨_, rfl, .one .v⟩, ⟨⟨_, rfl, .one (.ptr rfl)⟩, trivial⟩⟩) (⟨⟨rfl, .inl ⟨_, _, rfl, rfl, .box ⟨.lst, .v, .v, .lst, .lst, trivial⟩⟩⟩, trivial⟩))⟩
  · intro v9 hR 
    subst hR
    have H := exg HO8
    refine T.seq ?_
    refine T.region ?_
    refine RunT.ot0 (x := .agg [.lst (List.map eSeat a0.Seats), .v (.int .i64 a0.Gap), .v (.int .i64 a0.Radius), .lst (List.map eI a0.Kills), .lst (List.map ePole a0.Poles)]) rfl rfl rfl rfl (.loadP ty26 rfl rfl rfl) ?_
    refine RunT.ot0 (x := .v (.int .i64 a1)) rfl rfl rfl rfl (.moveX rfl) ?_
    obtain ⟨r15, h16, H⟩ := bs H
    refine RunT.ot1 (x := .own 8 0 ((List.map eI r15).length)) (p0 := (8, some (.arr false 1 (List.map eI r15)))) (n' := 16) rfl rfl rfl rfl (.callp (kill_by_pc false k a0 a1 r15 h16) rfl ⟨(.agg' ⟨.lst, .v, .v, .lst, .lst, trivial⟩), (.one .v), trivial⟩ rfl rfl rfl) rfl ?_
    refine RunT.ot0 (x := .own 8 0 ((List.map eI r15).length)) rfl rfl rfl rfl (.assignX rfl) ?_
    refine RunT.nil ?_
    obtain rfl := si H
    refine T.sub (sub_to (st' := ⟨[(4, .own 0 0 ((List.map eI r15).length))], [(0, some (.arr false 1 (List.map eI r15)))], 8, []⟩) [some 8] (by decide) rfl rfl (⟨⟨_, rfl, .one (.own' rfl ((List.length_map _).trans (List.length_map _).symm))⟩, trivial⟩) (⟨⟨rfl, .inl ⟨_, _, rfl, rfl, .arr rfl⟩⟩, trivial⟩)) ?_
    refine T.ret ?_
    exact RetOk.same [.own 0 0 ((List.map eI r15).length)] ⟨rfl, trivial⟩ rfl rfl rfl
set_option maxHeartbeats 4000000 in
theorem law8_told_pc (al : Bool) (k : Nat)  (o : Bool) (H : law8_told k  = some o) : PC Try.prog al 51 [] (.v (.bool o)) := by
  unfold law8_told at H
  refine PC.of_T Try.func51 rfl rfl (n := 80) rfl rfl (.inr rfl) ?_
  intro base B w0
  refine T.st (st' := ⟨[], [], 0, []⟩) rfl ?_
  refine T.seq ?_
  refine T.region ?_
  refine RunT.ot0 (x := .v (.bool false)) rfl rfl rfl rfl (.assignX rfl) ?_
  refine RunT.nil ?_
  refine T.seq ?_
  refine T.region ?_
  refine RunT.ot0 (x := .agg [.v (.int .i64 0), .v (.int .i64 0), .v (.int .i64 0), .v (.int .i64 0)]) rfl rfl rfl rfl (.bu bu28 rfl) ?_
  refine RunT.ot0 (x := .agg [.v (.int .i64 0), .v (.int .i64 3), .v (.int .i64 0), .v (.int .i64 0)]) rfl rfl rfl rfl (.bu bu28 rfl) ?_
  refine RunT.ot0 (x := .agg [.v (.int .i64 0), .v (.int .i64 9), .v (.int .i64 0), .v (.int .i64 0)]) rfl rfl rfl rfl (.bu bu28 rfl) ?_
  refine RunT.ot1 (x := .own 0 0 (([Seat.mk 0 0 0 0, Seat.mk 0 3 0 0, Seat.mk 0 9 0 0]).length)) (p0 := (0, some (.arr false 4 (List.map eSeat [Seat.mk 0 0 0 0, Seat.mk 0 3 0 0, Seat.mk 0 9 0 0])))) (n' := 8) rfl rfl rfl rfl (.bslicem (d := false) (l := [Seat.mk 0 0 0 0, Seat.mk 0 3 0 0, Seat.mk 0 9 0 0]) (f := eSeat) sl22 rfl rfl rfl enc_Seat rfl) rfl ?_
  refine RunT.ot1 (x := .own 8 0 (([2]).length)) (p0 := (8, some (.arr false 1 (List.map eI [2])))) (n' := 16) rfl rfl rfl rfl (.bslicem (d := false) (l := [2]) (f := eI) sl23 rfl rfl rfl enc_I rfl) rfl ?_
  refine RunT.ot0 (x := .agg [.v (.int .i64 0), .v (.int .i64 0), .v (.int .i64 3)]) rfl rfl rfl rfl (.bu bu60 rfl) ?_
  refine RunT.ot0 (x := .agg [.v (.int .i64 9), .v (.int .i64 0), .v (.int .i64 1)]) rfl rfl rfl rfl (.bu bu60 rfl) ?_
  refine RunT.ot1 (x := .own 16 0 (([Pole.mk 0 0 3, Pole.mk 9 0 1]).length)) (p0 := (16, some (.arr false 3 (List.map ePole [Pole.mk 0 0 3, Pole.mk 9 0 1])))) (n' := 24) rfl rfl rfl rfl (.bslicem (d := false) (l := [Pole.mk 0 0 3, Pole.mk 9 0 1]) (f := ePole) sl24 rfl rfl rfl enc_Pole rfl) rfl ?_
  refine RunT.ot0 (x := .agg [.own 0 0 (([Seat.mk 0 0 0 0, Seat.mk 0 3 0 0, Seat.mk 0 9 0 0]).length), .v (.int .i64 1), .v (.int .i64 0), .own 8 0 (([2]).length), .own 16 0 (([Pole.mk 0 0 3, Pole.mk 9 0 1]).length)]) rfl rfl rfl rfl (.bu bu26 rfl) ?_
  refine RunT.ot1 (x := .ptr 24 0) (p0 := (24, some (.box [.v (.slice none 0 0), .v (.int .i64 0), .v (.int .i64 0), .v (.slice none 0 0), .v (.slice none 0 0)]))) (n' := 32) rfl rfl rfl rfl (.allocX in26.zero rfl rfl) rfl ?_
  refine RunT.on1 (x := .junk) (p0 := (24, some (.box [.own 0 0 (([Seat.mk 0 0 0 0, Seat.mk 0 3 0 0, Seat.mk 0 9 0 0]).length), .v (.int .i64 1), .v (.int .i64 0), .own 8 0 (([2]).length), .own 16 0 (([Pole.mk 0 0 3, Pole.mk 9 0 1]).length)]))) (n' := 40) rfl rfl rfl (.storePX ty26 rfl rfl rfl rfl rfl rfl rfl) rfl ?_
  refine RunT.nil ?_
  refine T.seq ?_
  refine T.region ?_
  refine RunT.ot0 (x := .agg [.own 0 0 (([Seat.mk 0 0 0 0, Seat.mk 0 3 0 0, Seat.mk 0 9 0 0]).length), .v (.int .i64 1), .v (.int .i64 0), .own 8 0 (([2]).length), .own 16 0 (([Pole.mk 0 0 3, Pole.mk 9 0 1]).length)]) rfl rfl rfl rfl (.loadP ty26 rfl rfl rfl) ?_
  obtain ⟨r1, h2, H⟩ := bs H
  refine RunT.ot0 (x := .lst (List.map eB r1)) rfl rfl rfl rfl (.callp (PC.frozen (kill_Usable_pc false k (Venue.mk [Seat.mk 0 0 0 0, Seat.mk 0 3 0 0, Seat.mk 0 9 0 0] 1 0 [2] [Pole.mk 0 0 3, Pole.mk 9 0 1]) r1 h2)) rfl ⟨(.agg' ⟨(.all rfl (List.length_map _).symm), .v, .v, (.all rfl (List.length_map _).symm), (.all rfl (List.length_map _).symm), trivial⟩), trivial⟩ rfl rfl rfl) ?_
  refine RunT.ot0 (x := .lst (List.map eB r1)) rfl rfl rfl rfl (.assignX rfl) ?_
  refine RunT.nil ?_
  refine T.seq ?_
  refine T.region ?_
  refine RunT.ot0 (x := .agg [.own 0 0 (([Seat.mk 0 0 0 0, Seat.mk 0 3 0 0, Seat.mk 0 9 0 0]).length), .v (.int .i64 1), .v (.int .i64 0), .own 8 0 (([2]).length), .own 16 0 (([Pole.mk 0 0 3, Pole.mk 9 0 1]).length)]) rfl rfl rfl rfl (.loadP ty26 rfl rfl rfl) ?_
  obtain ⟨r3, h4, H⟩ := bs H
  refine RunT.ot0 (x := .lst (List.map eI r3)) rfl rfl rfl rfl (.callp (PC.frozen (kill_Killed_pc false k (Venue.mk [Seat.mk 0 0 0 0, Seat.mk 0 3 0 0, Seat.mk 0 9 0 0] 1 0 [2] [Pole.mk 0 0 3, Pole.mk 9 0 1]) r3 h4)) rfl ⟨(.agg' ⟨(.all rfl (List.length_map _).symm), .v, .v, (.all rfl (List.length_map _).symm), (.all rfl (List.length_map _).symm), trivial⟩), trivial⟩ rfl rfl rfl) ?_
  refine RunT.ot0 (x := .lst (List.map eI r3)) rfl rfl rfl rfl (.assignX rfl) ?_
  refine RunT.nil ?_
  refine T.seq ?_
  refine T.sub (sub_pick [1, 2, 3] [0, 8, 16, 24] (st' := ⟨[(1, .ptr 24 0), (2, .lst (List.map eB r1)), (3, .lst (List.map eI r3))], [(0, some (.arr false 4 (List.map eSeat [Seat.mk 0 0 0 0, Seat.mk 0 3 0 0, Seat.mk 0 9 0 0]))), (8, some (.arr false 1 (List.map eI [2]))), (16, some (.arr false 3 (List.map ePole [Pole.mk 0 0 3, Pole.mk 9 0 1]))), (24, some (.box [.own 0 0 (([Seat.mk 0 0 0 0, Seat.mk 0 3 0 0, Seat.mk 0 9 0 0]).length), .v (.int .i64 1), .v (.int .i64 0), .own 8 0 (([2]).length), .own 16 0 (([Pole.mk 0 0 3, Pole.mk 9 0 1]).length)]))], 40, []⟩) rfl rfl rfl rfl rfl) ?_
  refine T.region ?_
  refine RunT.ot0 (x := .agg [.own 0 0 (([Seat.mk 0 0 0 0, Seat.mk 0 3 0 0, Seat.mk 0 9 0 0]).length), .v (.int .i64 1), .v (.int .i64 0), .own 8 0 (([2]).length), .own 16 0 (([Pole.mk 0 0 3, Pole.mk 9 0 1]).length)]) rfl rfl rfl rfl (.loadP ty26 rfl rfl rfl) ?_
  obtain ⟨r5, h6, H⟩ := bs H
  refine RunT.ot0 (x := .lst (List.map eI r5)) rfl rfl rfl rfl (.callp (PC.frozen (kill_By_pc false k (Venue.mk [Seat.mk 0 0 0 0, Seat.mk 0 3 0 0, Seat.mk 0 9 0 0] 1 0 [2] [Pole.mk 0 0 3, Pole.mk 9 0 1]) 2 r5 h6)) rfl ⟨(.agg' ⟨(.all rfl (List.length_map _).symm), .v, .v, (.all rfl (List.length_map _).symm), (.all rfl (List.length_map _).symm), trivial⟩), (.one .v), trivial⟩ rfl rfl rfl) ?_
  refine RunT.ot0 (x := .lst (List.map eI r5)) rfl rfl rfl rfl (.assignX rfl) ?_
  refine RunT.nil ?_
  refine T.seq ?_
  refine T.region ?_
  refine RunT.ot0 (x := .lst (List.map eB r1)) rfl rfl rfl rfl (.moveX rfl) ?_
  refine RunT.ot0 (x := .v (.int .i64 (r1.length : Int))) rfl rfl rfl rfl (.lenLm Try.underlying43 rfl rfl) ?_
  refine RunT.ot0 (x := .v (.bool (decide ((r1.length : Int) = 3)))) rfl rfl rfl rfl (.bin rfl rfl (fun w => b_eql w) rfl) ?_
  refine RunT.ot0 (x := .v (.bool (decide ((r1.length : Int) = 3)))) rfl rfl rfl rfl (.moveX rfl) ?_
  refine RunT.cases (t := 23) (c := decide ((r1.length : Int) = 3)) rfl (fun g7 => ?_) (fun g7 => ?_)
  · replace H := ct H g7
    refine RunT.gt0 (x := .lst (List.map eB r1)) rfl rfl rfl (bo g7) rfl rfl (.moveX rfl) ?_
    obtain ⟨y8, h9, H⟩ := bs H
    refine RunT.gt0 (x := .rptr [.v (.bool y8)]) rfl rfl rfl (bo g7) rfl rfl (.idxLX h9 enc_B sl43 rfl rfl rfl) ?_
    refine RunT.gt0 (x := .v (.bool y8)) rfl rfl rfl (bo g7) rfl rfl (.loadR ty4 rfl rfl) ?_
    refine RunT.gt0 (x := .v (.bool (!y8))) rfl rfl rfl (bo g7) rfl rfl (.un rfl (fun w => u_not w) rfl) ?_
    refine RunT.ot0 (x := .v (.bool (!y8))) rfl rfl rfl rfl (.pickT (bo g7) rfl) ?_
    refine RunT.ot0 (x := .v (.bool (!y8))) rfl rfl rfl rfl (.moveX rfl) ?_
    refine RunT.cases (t := 29) (c := !y8) rfl (fun g10 => ?_) (fun g10 => ?_)
    · replace H := ct H g10
      refine RunT.gt0 (x := .lst (List.map eB r1)) rfl rfl rfl (bo g10) rfl rfl (.moveX rfl) ?_
      obtain ⟨y11, h12, H⟩ := bs H
      refine RunT.gt0 (x := .rptr [.v (.bool y11)]) rfl rfl rfl (bo g10) rfl rfl (.idxLX h12 enc_B sl43 rfl rfl rfl) ?_
      refine RunT.gt0 (x := .v (.bool y11)) rfl rfl rfl (bo g10) rfl rfl (.loadR ty4 rfl rfl) ?_
      refine RunT.ot0 (x := .v (.bool y11)) rfl rfl rfl rfl (.pickT (bo g10) rfl) ?_
      refine RunT.ot0 (x := .v (.bool y11)) rfl rfl rfl rfl (.moveX rfl) ?_
      refine RunT.cases (t := 34) (c := y11) rfl (fun g13 => ?_) (fun g13 => ?_)
      · replace H := ct H g13
        refine RunT.gt0 (x := .lst (List.map eB r1)) rfl rfl rfl (bo g13) rfl rfl (.moveX rfl) ?_
        obtain ⟨y14, h15, H⟩ := bs H
        refine RunT.gt0 (x := .rptr [.v (.bool y14)]) rfl rfl rfl (bo g13) rfl rfl (.idxLX h15 enc_B sl43 rfl rfl rfl) ?_
        refine RunT.gt0 (x := .v (.bool y14)) rfl rfl rfl (bo g13) rfl rfl (.loadR ty4 rfl rfl) ?_
        refine RunT.gt0 (x := .v (.bool (!y14))) rfl rfl rfl (bo g13) rfl rfl (.un rfl (fun w => u_not w) rfl) ?_
        refine RunT.ot0 (x := .v (.bool (!y14))) rfl rfl rfl rfl (.pickT (bo g13) rfl) ?_
        refine RunT.ot0 (x := .v (.bool (!y14))) rfl rfl rfl rfl (.moveX rfl) ?_
        refine RunT.cases (t := 40) (c := !y14) rfl (fun g16 => ?_) (fun g16 => ?_)
        · replace H := ct H g16
          refine RunT.gt0 (x := .lst (List.map eI r3)) rfl rfl rfl (bo g16) rfl rfl (.moveX rfl) ?_
          refine RunT.gt0 (x := .v (.int .i64 (r3.length : Int))) rfl rfl rfl (bo g16) rfl rfl (.lenLm Try.underlying23 rfl rfl) ?_
          refine RunT.gt0 (x := .v (.bool (decide ((r3.length : Int) = 2)))) rfl rfl rfl (bo g16) rfl rfl (.bin rfl rfl (fun w => b_eql w) rfl) ?_
          refine RunT.ot0 (x := .v (.bool (decide ((r3.length : Int) = 2)))) rfl rfl rfl rfl (.pickT (bo g16) rfl) ?_
          refine RunT.ot0 (x := .v (.bool (decide ((r3.length : Int) = 2)))) rfl rfl rfl rfl (.moveX rfl) ?_
          refine RunT.cases (t := 45) (c := decide ((r3.length : Int) = 2)) rfl (fun g17 => ?_) (fun g17 => ?_)
          · replace H := ct H g17
            refine RunT.gt0 (x := .lst (List.map eI r3)) rfl rfl rfl (bo g17) rfl rfl (.moveX rfl) ?_
            obtain ⟨y18, h19, H⟩ := bs H
            refine RunT.gt0 (x := .rptr [.v (.int .i64 y18)]) rfl rfl rfl (bo g17) rfl rfl (.idxLX h19 enc_I sl23 rfl rfl rfl) ?_
            refine RunT.gt0 (x := .v (.int .i64 y18)) rfl rfl rfl (bo g17) rfl rfl (.loadR ty3 rfl rfl) ?_
            refine RunT.gt0 (x := .v (.bool (decide (y18 = 2)))) rfl rfl rfl (bo g17) rfl rfl (.bin rfl rfl (fun w => b_eql w) rfl) ?_
            refine RunT.ot0 (x := .v (.bool (decide (y18 = 2)))) rfl rfl rfl rfl (.pickT (bo g17) rfl) ?_
            refine RunT.ot0 (x := .v (.bool (decide (y18 = 2)))) rfl rfl rfl rfl (.moveX rfl) ?_
            refine RunT.cases (t := 51) (c := decide (y18 = 2)) rfl (fun g20 => ?_) (fun g20 => ?_)
            · replace H := ct H g20
              refine RunT.gt0 (x := .lst (List.map eI r5)) rfl rfl rfl (bo g20) rfl rfl (.moveX rfl) ?_
              refine RunT.gt0 (x := .v (.int .i64 (r5.length : Int))) rfl rfl rfl (bo g20) rfl rfl (.lenLm Try.underlying23 rfl rfl) ?_
              refine RunT.gt0 (x := .v (.bool (decide ((r5.length : Int) = 2)))) rfl rfl rfl (bo g20) rfl rfl (.bin rfl rfl (fun w => b_eql w) rfl) ?_
              refine RunT.ot0 (x := .v (.bool (decide ((r5.length : Int) = 2)))) rfl rfl rfl rfl (.pickT (bo g20) rfl) ?_
              refine RunT.ot0 (x := .v (.bool (decide ((r5.length : Int) = 2)))) rfl rfl rfl rfl (.moveX rfl) ?_
              refine RunT.cases (t := 56) (c := decide ((r5.length : Int) = 2)) rfl (fun g21 => ?_) (fun g21 => ?_)
              · replace H := ct H g21
                refine RunT.gt0 (x := .lst (List.map eI r5)) rfl rfl rfl (bo g21) rfl rfl (.moveX rfl) ?_
                obtain ⟨y22, h23, H⟩ := bs H
                refine RunT.gt0 (x := .rptr [.v (.int .i64 y22)]) rfl rfl rfl (bo g21) rfl rfl (.idxLX h23 enc_I sl23 rfl rfl rfl) ?_
                refine RunT.gt0 (x := .v (.int .i64 y22)) rfl rfl rfl (bo g21) rfl rfl (.loadR ty3 rfl rfl) ?_
                refine RunT.gt0 (x := .v (.bool (decide (y22 = (-1))))) rfl rfl rfl (bo g21) rfl rfl (.bin rfl rfl (fun w => b_eql w) rfl) ?_
                refine RunT.ot0 (x := .v (.bool (decide (y22 = (-1))))) rfl rfl rfl rfl (.pickT (bo g21) rfl) ?_
                refine RunT.ot0 (x := .v (.bool (decide (y22 = (-1))))) rfl rfl rfl rfl (.moveX rfl) ?_
                refine RunT.cases (t := 62) (c := decide (y22 = (-1))) rfl (fun g24 => ?_) (fun g24 => ?_)
                · replace H := ct H g24
                  refine RunT.gt0 (x := .lst (List.map eI r5)) rfl rfl rfl (bo g24) rfl rfl (.moveX rfl) ?_
                  obtain ⟨y25, h26, H⟩ := bs H
                  refine RunT.gt0 (x := .rptr [.v (.int .i64 y25)]) rfl rfl rfl (bo g24) rfl rfl (.idxLX h26 enc_I sl23 rfl rfl rfl) ?_
                  refine RunT.gt0 (x := .v (.int .i64 y25)) rfl rfl rfl (bo g24) rfl rfl (.loadR ty3 rfl rfl) ?_
                  refine RunT.gt0 (x := .v (.bool (decide (y25 = 1)))) rfl rfl rfl (bo g24) rfl rfl (.bin rfl rfl (fun w => b_eql w) rfl) ?_
                  refine RunT.ot0 (x := .v (.bool (decide (y25 = 1)))) rfl rfl rfl rfl (.pickT (bo g24) rfl) ?_
                  refine RunT.ot0 (x := .v (.bool (decide (y25 = 1)))) rfl rfl rfl rfl (.moveX rfl) ?_
                  refine RunT.cases (t := 68) (c := decide (y25 = 1)) rfl (fun g27 => ?_) (fun g27 => ?_)
                  · replace H := ct H g27
                    refine RunT.gt0 (x := .agg [.own 0 0 (([Seat.mk 0 0 0 0, Seat.mk 0 3 0 0, Seat.mk 0 9 0 0]).length), .v (.int .i64 1), .v (.int .i64 0), .own 8 0 (([2]).length), .own 16 0 (([Pole.mk 0 0 3, Pole.mk 9 0 1]).length)]) rfl rfl rfl (bo g27) rfl rfl (.loadP ty26 rfl rfl rfl) ?_
                    obtain ⟨r28, h29, H⟩ := bs H
                    refine RunT.gt0 (x := .lst (List.map eI r28)) rfl rfl rfl (bo g27) rfl rfl (.callp (PC.frozen (kill_By_pc false k (Venue.mk [Seat.mk 0 0 0 0, Seat.mk 0 3 0 0, Seat.mk 0 9 0 0] 1 0 [2] [Pole.mk 0 0 3, Pole.mk 9 0 1]) 3 r28 h29)) rfl ⟨(.agg' ⟨(.all rfl (List.length_map _).symm), .v, .v, (.all rfl (List.length_map _).symm), (.all rfl (List.length_map _).symm), trivial⟩), (.one .v), trivial⟩ rfl rfl rfl) ?_
                    refine RunT.gt0 (x := .v (.int .i64 (r28.length : Int))) rfl rfl rfl (bo g27) rfl rfl (.lenLm Try.underlying23 rfl rfl) ?_
                    refine RunT.gt0 (x := .v (.bool (decide ((r28.length : Int) = 0)))) rfl rfl rfl (bo g27) rfl rfl (.bin rfl rfl (fun w => b_eql w) rfl) ?_
                    refine RunT.ot0 (x := .v (.bool (decide ((r28.length : Int) = 0)))) rfl rfl rfl rfl (.pickT (bo g27) rfl) ?_
                    refine RunT.ot0 (x := .v (.bool (decide ((r28.length : Int) = 0)))) rfl rfl rfl rfl (.moveX rfl) ?_
                    refine RunT.cases (t := 74) (c := decide ((r28.length : Int) = 0)) rfl (fun g30 => ?_) (fun g30 => ?_)
                    · replace H := ct H g30
                      refine RunT.gt0 (x := .agg [.v (.slice none 0 0), .v (.int .i64 0), .v (.int .i64 0), .v (.slice none 0 0), .v (.slice none 0 0)]) rfl rfl rfl (bo g30) rfl rfl (.bu bu26 rfl) ?_
                      obtain ⟨r31, h32, H⟩ := bs H
                      refine RunT.gt0 (x := .lst (List.map eB r31)) rfl rfl rfl (bo g30) rfl rfl (.callp (PC.frozen (kill_Usable_pc false k (Venue.mk [] 0 0 [] []) r31 h32)) rfl ⟨(.agg' ⟨.nil, .v, .v, .nil, .nil, trivial⟩), trivial⟩ rfl rfl rfl) ?_
                      refine RunT.gt0 (x := .v (.int .i64 (r31.length : Int))) rfl rfl rfl (bo g30) rfl rfl (.lenLm Try.underlying43 rfl rfl) ?_
                      refine RunT.gt0 (x := .v (.bool (decide ((r31.length : Int) = 0)))) rfl rfl rfl (bo g30) rfl rfl (.bin rfl rfl (fun w => b_eql w) rfl) ?_
                      refine RunT.ot0 (x := .v (.bool (decide ((r31.length : Int) = 0)))) rfl rfl rfl rfl (.pickT (bo g30) rfl) ?_
                      refine RunT.ot0 (x := .v (.bool (decide ((r31.length : Int) = 0)))) rfl rfl rfl rfl (.assignX rfl) ?_
                      refine RunT.nil ?_
                      obtain rfl := si H
                      refine T.sub (sub_to (st' := ⟨[(0, .v (.bool (decide ((r31.length : Int) = 0))))], [], 8, []⟩) [] (by decide) rfl rfl (⟨⟨_, rfl, .one .v⟩, trivial⟩) (trivial)) ?_
                      refine T.ret ?_
                      exact RetOk.same [.v (.bool (decide ((r31.length : Int) = 0)))] ⟨rfl, trivial⟩ rfl rfl rfl
                    · replace H := cf H g30
                      refine RunT.xn rfl rfl rfl (bo g30) rfl rfl ?_
                      refine RunT.xn rfl rfl rfl (bo g30) rfl rfl ?_
                      refine RunT.xn rfl rfl rfl (bo g30) rfl rfl ?_
                      refine RunT.xn rfl rfl rfl (bo g30) rfl rfl ?_
                      refine RunT.ot0 (x := .v (.bool false)) rfl rfl rfl rfl (.pickF (bo g30) rfl) ?_
                      refine RunT.ot0 (x := .v (.bool false)) rfl rfl rfl rfl (.assignX rfl) ?_
                      refine RunT.nil ?_
                      obtain rfl := si H
                      refine T.sub (sub_to (st' := ⟨[(0, .v (.bool false))], [], 8, []⟩) [] (by decide) rfl rfl (⟨⟨_, rfl, .one .v⟩, trivial⟩) (trivial)) ?_
                      refine T.ret ?_
                      exact RetOk.same [.v (.bool false)] ⟨rfl, trivial⟩ rfl rfl rfl
                  · replace H := cf H g27
                    refine RunT.xn rfl rfl rfl (bo g27) rfl rfl ?_
                    refine RunT.xn rfl rfl rfl (bo g27) rfl rfl ?_
                    refine RunT.xn rfl rfl rfl (bo g27) rfl rfl ?_
                    refine RunT.xn rfl rfl rfl (bo g27) rfl rfl ?_
                    refine RunT.ot0 (x := .v (.bool false)) rfl rfl rfl rfl (.pickF (bo g27) rfl) ?_
                    refine RunT.ot0 (x := .v (.bool false)) rfl rfl rfl rfl (.moveX rfl) ?_
                    refine RunT.xn rfl rfl rfl rfl rfl rfl ?_
                    refine RunT.xn rfl rfl rfl rfl rfl rfl ?_
                    refine RunT.xn rfl rfl rfl rfl rfl rfl ?_
                    refine RunT.xn rfl rfl rfl rfl rfl rfl ?_
                    refine RunT.ot0 (x := .v (.bool false)) rfl rfl rfl rfl (.pickF rfl rfl) ?_
                    refine RunT.ot0 (x := .v (.bool false)) rfl rfl rfl rfl (.assignX rfl) ?_
                    refine RunT.nil ?_
                    obtain rfl := si H
                    refine T.sub (sub_to (st' := ⟨[(0, .v (.bool false))], [], 8, []⟩) [] (by decide) rfl rfl (⟨⟨_, rfl, .one .v⟩, trivial⟩) (trivial)) ?_
                    refine T.ret ?_
                    exact RetOk.same [.v (.bool false)] ⟨rfl, trivial⟩ rfl rfl rfl
                · replace H := cf H g24
                  refine RunT.xn rfl rfl rfl (bo g24) rfl rfl ?_
                  refine RunT.xn rfl rfl rfl (bo g24) rfl rfl ?_
                  refine RunT.xn rfl rfl rfl (bo g24) rfl rfl ?_
                  refine RunT.xn rfl rfl rfl (bo g24) rfl rfl ?_
                  refine RunT.ot0 (x := .v (.bool false)) rfl rfl rfl rfl (.pickF (bo g24) rfl) ?_
                  refine RunT.ot0 (x := .v (.bool false)) rfl rfl rfl rfl (.moveX rfl) ?_
                  refine RunT.xn rfl rfl rfl rfl rfl rfl ?_
                  refine RunT.xn rfl rfl rfl rfl rfl rfl ?_
                  refine RunT.xn rfl rfl rfl rfl rfl rfl ?_
                  refine RunT.xn rfl rfl rfl rfl rfl rfl ?_
                  refine RunT.ot0 (x := .v (.bool false)) rfl rfl rfl rfl (.pickF rfl rfl) ?_
                  refine RunT.ot0 (x := .v (.bool false)) rfl rfl rfl rfl (.moveX rfl) ?_
                  refine RunT.xn rfl rfl rfl rfl rfl rfl ?_
                  refine RunT.xn rfl rfl rfl rfl rfl rfl ?_
                  refine RunT.xn rfl rfl rfl rfl rfl rfl ?_
                  refine RunT.xn rfl rfl rfl rfl rfl rfl ?_
                  refine RunT.ot0 (x := .v (.bool false)) rfl rfl rfl rfl (.pickF rfl rfl) ?_
                  refine RunT.ot0 (x := .v (.bool false)) rfl rfl rfl rfl (.assignX rfl) ?_
                  refine RunT.nil ?_
                  obtain rfl := si H
                  refine T.sub (sub_to (st' := ⟨[(0, .v (.bool false))], [], 8, []⟩) [] (by decide) rfl rfl (⟨⟨_, rfl, .one .v⟩, trivial⟩) (trivial)) ?_
                  refine T.ret ?_
                  exact RetOk.same [.v (.bool false)] ⟨rfl, trivial⟩ rfl rfl rfl
              · replace H := cf H g21
                refine RunT.xn rfl rfl rfl (bo g21) rfl rfl ?_
                refine RunT.xn rfl rfl rfl (bo g21) rfl rfl ?_
                refine RunT.xn rfl rfl rfl (bo g21) rfl rfl ?_
                refine RunT.xn rfl rfl rfl (bo g21) rfl rfl ?_
                refine RunT.ot0 (x := .v (.bool false)) rfl rfl rfl rfl (.pickF (bo g21) rfl) ?_
                refine RunT.ot0 (x := .v (.bool false)) rfl rfl rfl rfl (.moveX rfl) ?_
                refine RunT.xn rfl rfl rfl rfl rfl rfl ?_
                refine RunT.xn rfl rfl rfl rfl rfl rfl ?_
                refine RunT.xn rfl rfl rfl rfl rfl rfl ?_
                refine RunT.xn rfl rfl rfl rfl rfl rfl ?_
                refine RunT.ot0 (x := .v (.bool false)) rfl rfl rfl rfl (.pickF rfl rfl) ?_
                refine RunT.ot0 (x := .v (.bool false)) rfl rfl rfl rfl (.moveX rfl) ?_
                refine RunT.xn rfl rfl rfl rfl rfl rfl ?_
                refine RunT.xn rfl rfl rfl rfl rfl rfl ?_
                refine RunT.xn rfl rfl rfl rfl rfl rfl ?_
                refine RunT.xn rfl rfl rfl rfl rfl rfl ?_
                refine RunT.ot0 (x := .v (.bool false)) rfl rfl rfl rfl (.pickF rfl rfl) ?_
                refine RunT.ot0 (x := .v (.bool false)) rfl rfl rfl rfl (.moveX rfl) ?_
                refine RunT.xn rfl rfl rfl rfl rfl rfl ?_
                refine RunT.xn rfl rfl rfl rfl rfl rfl ?_
                refine RunT.xn rfl rfl rfl rfl rfl rfl ?_
                refine RunT.xn rfl rfl rfl rfl rfl rfl ?_
                refine RunT.ot0 (x := .v (.bool false)) rfl rfl rfl rfl (.pickF rfl rfl) ?_
                refine RunT.ot0 (x := .v (.bool false)) rfl rfl rfl rfl (.assignX rfl) ?_
                refine RunT.nil ?_
                obtain rfl := si H
                refine T.sub (sub_to (st' := ⟨[(0, .v (.bool false))], [], 8, []⟩) [] (by decide) rfl rfl (⟨⟨_, rfl, .one .v⟩, trivial⟩) (trivial)) ?_
                refine T.ret ?_
                exact RetOk.same [.v (.bool false)] ⟨rfl, trivial⟩ rfl rfl rfl
            · replace H := cf H g20
              refine RunT.xn rfl rfl rfl (bo g20) rfl rfl ?_
              refine RunT.xn rfl rfl rfl (bo g20) rfl rfl ?_
              refine RunT.xn rfl rfl rfl (bo g20) rfl rfl ?_
              refine RunT.ot0 (x := .v (.bool false)) rfl rfl rfl rfl (.pickF (bo g20) rfl) ?_
              refine RunT.ot0 (x := .v (.bool false)) rfl rfl rfl rfl (.moveX rfl) ?_
              refine RunT.xn rfl rfl rfl rfl rfl rfl ?_
              refine RunT.xn rfl rfl rfl rfl rfl rfl ?_
              refine RunT.xn rfl rfl rfl rfl rfl rfl ?_
              refine RunT.xn rfl rfl rfl rfl rfl rfl ?_
              refine RunT.ot0 (x := .v (.bool false)) rfl rfl rfl rfl (.pickF rfl rfl) ?_
              refine RunT.ot0 (x := .v (.bool false)) rfl rfl rfl rfl (.moveX rfl) ?_
              refine RunT.xn rfl rfl rfl rfl rfl rfl ?_
              refine RunT.xn rfl rfl rfl rfl rfl rfl ?_
              refine RunT.xn rfl rfl rfl rfl rfl rfl ?_
              refine RunT.xn rfl rfl rfl rfl rfl rfl ?_
              refine RunT.ot0 (x := .v (.bool false)) rfl rfl rfl rfl (.pickF rfl rfl) ?_
              refine RunT.ot0 (x := .v (.bool false)) rfl rfl rfl rfl (.moveX rfl) ?_
              refine RunT.xn rfl rfl rfl rfl rfl rfl ?_
              refine RunT.xn rfl rfl rfl rfl rfl rfl ?_
              refine RunT.xn rfl rfl rfl rfl rfl rfl ?_
              refine RunT.xn rfl rfl rfl rfl rfl rfl ?_
              refine RunT.ot0 (x := .v (.bool false)) rfl rfl rfl rfl (.pickF rfl rfl) ?_
              refine RunT.ot0 (x := .v (.bool false)) rfl rfl rfl rfl (.moveX rfl) ?_
              refine RunT.xn rfl rfl rfl rfl rfl rfl ?_
              refine RunT.xn rfl rfl rfl rfl rfl rfl ?_
              refine RunT.xn rfl rfl rfl rfl rfl rfl ?_
              refine RunT.xn rfl rfl rfl rfl rfl rfl ?_
              refine RunT.ot0 (x := .v (.bool false)) rfl rfl rfl rfl (.pickF rfl rfl) ?_
              refine RunT.ot0 (x := .v (.bool false)) rfl rfl rfl rfl (.assignX rfl) ?_
              refine RunT.nil ?_
              obtain rfl := si H
              refine T.sub (sub_to (st' := ⟨[(0, .v (.bool false))], [], 8, []⟩) [] (by decide) rfl rfl (⟨⟨_, rfl, .one .v⟩, trivial⟩) (trivial)) ?_
              refine T.ret ?_
              exact RetOk.same [.v (.bool false)] ⟨rfl, trivial⟩ rfl rfl rfl
          · replace H := cf H g17
            refine RunT.xn rfl rfl rfl (bo g17) rfl rfl ?_
            refine RunT.xn rfl rfl rfl (bo g17) rfl rfl ?_
            refine RunT.xn rfl rfl rfl (bo g17) rfl rfl ?_
            refine RunT.xn rfl rfl rfl (bo g17) rfl rfl ?_
            refine RunT.ot0 (x := .v (.bool false)) rfl rfl rfl rfl (.pickF (bo g17) rfl) ?_
            refine RunT.ot0 (x := .v (.bool false)) rfl rfl rfl rfl (.moveX rfl) ?_
            refine RunT.xn rfl rfl rfl rfl rfl rfl ?_
            refine RunT.xn rfl rfl rfl rfl rfl rfl ?_
            refine RunT.xn rfl rfl rfl rfl rfl rfl ?_
            refine RunT.ot0 (x := .v (.bool false)) rfl rfl rfl rfl (.pickF rfl rfl) ?_
            refine RunT.ot0 (x := .v (.bool false)) rfl rfl rfl rfl (.moveX rfl) ?_
            refine RunT.xn rfl rfl rfl rfl rfl rfl ?_
            refine RunT.xn rfl rfl rfl rfl rfl rfl ?_
            refine RunT.xn rfl rfl rfl rfl rfl rfl ?_
            refine RunT.xn rfl rfl rfl rfl rfl rfl ?_
            refine RunT.ot0 (x := .v (.bool false)) rfl rfl rfl rfl (.pickF rfl rfl) ?_
            refine RunT.ot0 (x := .v (.bool false)) rfl rfl rfl rfl (.moveX rfl) ?_
            refine RunT.xn rfl rfl rfl rfl rfl rfl ?_
            refine RunT.xn rfl rfl rfl rfl rfl rfl ?_
            refine RunT.xn rfl rfl rfl rfl rfl rfl ?_
            refine RunT.xn rfl rfl rfl rfl rfl rfl ?_
            refine RunT.ot0 (x := .v (.bool false)) rfl rfl rfl rfl (.pickF rfl rfl) ?_
            refine RunT.ot0 (x := .v (.bool false)) rfl rfl rfl rfl (.moveX rfl) ?_
            refine RunT.xn rfl rfl rfl rfl rfl rfl ?_
            refine RunT.xn rfl rfl rfl rfl rfl rfl ?_
            refine RunT.xn rfl rfl rfl rfl rfl rfl ?_
            refine RunT.xn rfl rfl rfl rfl rfl rfl ?_
            refine RunT.ot0 (x := .v (.bool false)) rfl rfl rfl rfl (.pickF rfl rfl) ?_
            refine RunT.ot0 (x := .v (.bool false)) rfl rfl rfl rfl (.moveX rfl) ?_
            refine RunT.xn rfl rfl rfl rfl rfl rfl ?_
            refine RunT.xn rfl rfl rfl rfl rfl rfl ?_
            refine RunT.xn rfl rfl rfl rfl rfl rfl ?_
            refine RunT.xn rfl rfl rfl rfl rfl rfl ?_
            refine RunT.ot0 (x := .v (.bool false)) rfl rfl rfl rfl (.pickF rfl rfl) ?_
            refine RunT.ot0 (x := .v (.bool false)) rfl rfl rfl rfl (.assignX rfl) ?_
            refine RunT.nil ?_
            obtain rfl := si H
            refine T.sub (sub_to (st' := ⟨[(0, .v (.bool false))], [], 8, []⟩) [] (by decide) rfl rfl (⟨⟨_, rfl, .one .v⟩, trivial⟩) (trivial)) ?_
            refine T.ret ?_
            exact RetOk.same [.v (.bool false)] ⟨rfl, trivial⟩ rfl rfl rfl
        · replace H := cf H g16
          refine RunT.xn rfl rfl rfl (bo g16) rfl rfl ?_
          refine RunT.xn rfl rfl rfl (bo g16) rfl rfl ?_
          refine RunT.xn rfl rfl rfl (bo g16) rfl rfl ?_
          refine RunT.ot0 (x := .v (.bool false)) rfl rfl rfl rfl (.pickF (bo g16) rfl) ?_
          refine RunT.ot0 (x := .v (.bool false)) rfl rfl rfl rfl (.moveX rfl) ?_
          refine RunT.xn rfl rfl rfl rfl rfl rfl ?_
          refine RunT.xn rfl rfl rfl rfl rfl rfl ?_
          refine RunT.xn rfl rfl rfl rfl rfl rfl ?_
          refine RunT.xn rfl rfl rfl rfl rfl rfl ?_
          refine RunT.ot0 (x := .v (.bool false)) rfl rfl rfl rfl (.pickF rfl rfl) ?_
          refine RunT.ot0 (x := .v (.bool false)) rfl rfl rfl rfl (.moveX rfl) ?_
          refine RunT.xn rfl rfl rfl rfl rfl rfl ?_
          refine RunT.xn rfl rfl rfl rfl rfl rfl ?_
          refine RunT.xn rfl rfl rfl rfl rfl rfl ?_
          refine RunT.ot0 (x := .v (.bool false)) rfl rfl rfl rfl (.pickF rfl rfl) ?_
          refine RunT.ot0 (x := .v (.bool false)) rfl rfl rfl rfl (.moveX rfl) ?_
          refine RunT.xn rfl rfl rfl rfl rfl rfl ?_
          refine RunT.xn rfl rfl rfl rfl rfl rfl ?_
          refine RunT.xn rfl rfl rfl rfl rfl rfl ?_
          refine RunT.xn rfl rfl rfl rfl rfl rfl ?_
          refine RunT.ot0 (x := .v (.bool false)) rfl rfl rfl rfl (.pickF rfl rfl) ?_
          refine RunT.ot0 (x := .v (.bool false)) rfl rfl rfl rfl (.moveX rfl) ?_
          refine RunT.xn rfl rfl rfl rfl rfl rfl ?_
          refine RunT.xn rfl rfl rfl rfl rfl rfl ?_
          refine RunT.xn rfl rfl rfl rfl rfl rfl ?_
          refine RunT.xn rfl rfl rfl rfl rfl rfl ?_
          refine RunT.ot0 (x := .v (.bool false)) rfl rfl rfl rfl (.pickF rfl rfl) ?_
          refine RunT.ot0 (x := .v (.bool false)) rfl rfl rfl rfl (.moveX rfl) ?_
          refine RunT.xn rfl rfl rfl rfl rfl rfl ?_
          refine RunT.xn rfl rfl rfl rfl rfl rfl ?_
          refine RunT.xn rfl rfl rfl rfl rfl rfl ?_
          refine RunT.xn rfl rfl rfl rfl rfl rfl ?_
          refine RunT.ot0 (x := .v (.bool false)) rfl rfl rfl rfl (.pickF rfl rfl) ?_
          refine RunT.ot0 (x := .v (.bool false)) rfl rfl rfl rfl (.moveX rfl) ?_
          refine RunT.xn rfl rfl rfl rfl rfl rfl ?_
          refine RunT.xn rfl rfl rfl rfl rfl rfl ?_
          refine RunT.xn rfl rfl rfl rfl rfl rfl ?_
          refine RunT.xn rfl rfl rfl rfl rfl rfl ?_
          refine RunT.ot0 (x := .v (.bool false)) rfl rfl rfl rfl (.pickF rfl rfl) ?_
          refine RunT.ot0 (x := .v (.bool false)) rfl rfl rfl rfl (.assignX rfl) ?_
          refine RunT.nil ?_
          obtain rfl := si H
          refine T.sub (sub_to (st' := ⟨[(0, .v (.bool false))], [], 8, []⟩) [] (by decide) rfl rfl (⟨⟨_, rfl, .one .v⟩, trivial⟩) (trivial)) ?_
          refine T.ret ?_
          exact RetOk.same [.v (.bool false)] ⟨rfl, trivial⟩ rfl rfl rfl
      · replace H := cf H g13
        refine RunT.xn rfl rfl rfl (bo g13) rfl rfl ?_
        refine RunT.xn rfl rfl rfl (bo g13) rfl rfl ?_
        refine RunT.xn rfl rfl rfl (bo g13) rfl rfl ?_
        refine RunT.xn rfl rfl rfl (bo g13) rfl rfl ?_
        refine RunT.ot0 (x := .v (.bool false)) rfl rfl rfl rfl (.pickF (bo g13) rfl) ?_
        refine RunT.ot0 (x := .v (.bool false)) rfl rfl rfl rfl (.moveX rfl) ?_
        refine RunT.xn rfl rfl rfl rfl rfl rfl ?_
        refine RunT.xn rfl rfl rfl rfl rfl rfl ?_
        refine RunT.xn rfl rfl rfl rfl rfl rfl ?_
        refine RunT.ot0 (x := .v (.bool false)) rfl rfl rfl rfl (.pickF rfl rfl) ?_
        refine RunT.ot0 (x := .v (.bool false)) rfl rfl rfl rfl (.moveX rfl) ?_
        refine RunT.xn rfl rfl rfl rfl rfl rfl ?_
        refine RunT.xn rfl rfl rfl rfl rfl rfl ?_
        refine RunT.xn rfl rfl rfl rfl rfl rfl ?_
        refine RunT.xn rfl rfl rfl rfl rfl rfl ?_
        refine RunT.ot0 (x := .v (.bool false)) rfl rfl rfl rfl (.pickF rfl rfl) ?_
        refine RunT.ot0 (x := .v (.bool false)) rfl rfl rfl rfl (.moveX rfl) ?_
        refine RunT.xn rfl rfl rfl rfl rfl rfl ?_
        refine RunT.xn rfl rfl rfl rfl rfl rfl ?_
        refine RunT.xn rfl rfl rfl rfl rfl rfl ?_
        refine RunT.ot0 (x := .v (.bool false)) rfl rfl rfl rfl (.pickF rfl rfl) ?_
        refine RunT.ot0 (x := .v (.bool false)) rfl rfl rfl rfl (.moveX rfl) ?_
        refine RunT.xn rfl rfl rfl rfl rfl rfl ?_
        refine RunT.xn rfl rfl rfl rfl rfl rfl ?_
        refine RunT.xn rfl rfl rfl rfl rfl rfl ?_
        refine RunT.xn rfl rfl rfl rfl rfl rfl ?_
        refine RunT.ot0 (x := .v (.bool false)) rfl rfl rfl rfl (.pickF rfl rfl) ?_
        refine RunT.ot0 (x := .v (.bool false)) rfl rfl rfl rfl (.moveX rfl) ?_
        refine RunT.xn rfl rfl rfl rfl rfl rfl ?_
        refine RunT.xn rfl rfl rfl rfl rfl rfl ?_
        refine RunT.xn rfl rfl rfl rfl rfl rfl ?_
        refine RunT.xn rfl rfl rfl rfl rfl rfl ?_
        refine RunT.ot0 (x := .v (.bool false)) rfl rfl rfl rfl (.pickF rfl rfl) ?_
        refine RunT.ot0 (x := .v (.bool false)) rfl rfl rfl rfl (.moveX rfl) ?_
        refine RunT.xn rfl rfl rfl rfl rfl rfl ?_
        refine RunT.xn rfl rfl rfl rfl rfl rfl ?_
        refine RunT.xn rfl rfl rfl rfl rfl rfl ?_
        refine RunT.xn rfl rfl rfl rfl rfl rfl ?_
        refine RunT.ot0 (x := .v (.bool false)) rfl rfl rfl rfl (.pickF rfl rfl) ?_
        refine RunT.ot0 (x := .v (.bool false)) rfl rfl rfl rfl (.moveX rfl) ?_
        refine RunT.xn rfl rfl rfl rfl rfl rfl ?_
        refine RunT.xn rfl rfl rfl rfl rfl rfl ?_
        refine RunT.xn rfl rfl rfl rfl rfl rfl ?_
        refine RunT.xn rfl rfl rfl rfl rfl rfl ?_
        refine RunT.ot0 (x := .v (.bool false)) rfl rfl rfl rfl (.pickF rfl rfl) ?_
        refine RunT.ot0 (x := .v (.bool false)) rfl rfl rfl rfl (.assignX rfl) ?_
        refine RunT.nil ?_
        obtain rfl := si H
        refine T.sub (sub_to (st' := ⟨[(0, .v (.bool false))], [], 8, []⟩) [] (by decide) rfl rfl (⟨⟨_, rfl, .one .v⟩, trivial⟩) (trivial)) ?_
        refine T.ret ?_
        exact RetOk.same [.v (.bool false)] ⟨rfl, trivial⟩ rfl rfl rfl
    · replace H := cf H g10
      refine RunT.xn rfl rfl rfl (bo g10) rfl rfl ?_
      refine RunT.xn rfl rfl rfl (bo g10) rfl rfl ?_
      refine RunT.xn rfl rfl rfl (bo g10) rfl rfl ?_
      refine RunT.ot0 (x := .v (.bool false)) rfl rfl rfl rfl (.pickF (bo g10) rfl) ?_
      refine RunT.ot0 (x := .v (.bool false)) rfl rfl rfl rfl (.moveX rfl) ?_
      refine RunT.xn rfl rfl rfl rfl rfl rfl ?_
      refine RunT.xn rfl rfl rfl rfl rfl rfl ?_
      refine RunT.xn rfl rfl rfl rfl rfl rfl ?_
      refine RunT.xn rfl rfl rfl rfl rfl rfl ?_
      refine RunT.ot0 (x := .v (.bool false)) rfl rfl rfl rfl (.pickF rfl rfl) ?_
      refine RunT.ot0 (x := .v (.bool false)) rfl rfl rfl rfl (.moveX rfl) ?_
      refine RunT.xn rfl rfl rfl rfl rfl rfl ?_
      refine RunT.xn rfl rfl rfl rfl rfl rfl ?_
      refine RunT.xn rfl rfl rfl rfl rfl rfl ?_
      refine RunT.ot0 (x := .v (.bool false)) rfl rfl rfl rfl (.pickF rfl rfl) ?_
      refine RunT.ot0 (x := .v (.bool false)) rfl rfl rfl rfl (.moveX rfl) ?_
      refine RunT.xn rfl rfl rfl rfl rfl rfl ?_
      refine RunT.xn rfl rfl rfl rfl rfl rfl ?_
      refine RunT.xn rfl rfl rfl rfl rfl rfl ?_
      refine RunT.xn rfl rfl rfl rfl rfl rfl ?_
      refine RunT.ot0 (x := .v (.bool false)) rfl rfl rfl rfl (.pickF rfl rfl) ?_
      refine RunT.ot0 (x := .v (.bool false)) rfl rfl rfl rfl (.moveX rfl) ?_
      refine RunT.xn rfl rfl rfl rfl rfl rfl ?_
      refine RunT.xn rfl rfl rfl rfl rfl rfl ?_
      refine RunT.xn rfl rfl rfl rfl rfl rfl ?_
      refine RunT.ot0 (x := .v (.bool false)) rfl rfl rfl rfl (.pickF rfl rfl) ?_
      refine RunT.ot0 (x := .v (.bool false)) rfl rfl rfl rfl (.moveX rfl) ?_
      refine RunT.xn rfl rfl rfl rfl rfl rfl ?_
      refine RunT.xn rfl rfl rfl rfl rfl rfl ?_
      refine RunT.xn rfl rfl rfl rfl rfl rfl ?_
      refine RunT.xn rfl rfl rfl rfl rfl rfl ?_
      refine RunT.ot0 (x := .v (.bool false)) rfl rfl rfl rfl (.pickF rfl rfl) ?_
      refine RunT.ot0 (x := .v (.bool false)) rfl rfl rfl rfl (.moveX rfl) ?_
      refine RunT.xn rfl rfl rfl rfl rfl rfl ?_
      refine RunT.xn rfl rfl rfl rfl rfl rfl ?_
      refine RunT.xn rfl rfl rfl rfl rfl rfl ?_
      refine RunT.xn rfl rfl rfl rfl rfl rfl ?_
      refine RunT.ot0 (x := .v (.bool false)) rfl rfl rfl rfl (.pickF rfl rfl) ?_
      refine RunT.ot0 (x := .v (.bool false)) rfl rfl rfl rfl (.moveX rfl) ?_
      refine RunT.xn rfl rfl rfl rfl rfl rfl ?_
      refine RunT.xn rfl rfl rfl rfl rfl rfl ?_
      refine RunT.xn rfl rfl rfl rfl rfl rfl ?_
      refine RunT.xn rfl rfl rfl rfl rfl rfl ?_
      refine RunT.ot0 (x := .v (.bool false)) rfl rfl rfl rfl (.pickF rfl rfl) ?_
      refine RunT.ot0 (x := .v (.bool false)) rfl rfl rfl rfl (.moveX rfl) ?_
      refine RunT.xn rfl rfl rfl rfl rfl rfl ?_
      refine RunT.xn rfl rfl rfl rfl rfl rfl ?_
      refine RunT.xn rfl rfl rfl rfl rfl rfl ?_
      refine RunT.xn rfl rfl rfl rfl rfl rfl ?_
      refine RunT.ot0 (x := .v (.bool false)) rfl rfl rfl rfl (.pickF rfl rfl) ?_
      refine RunT.ot0 (x := .v (.bool false)) rfl rfl rfl rfl (.assignX rfl) ?_
      refine RunT.nil ?_
      obtain rfl := si H
      refine T.sub (sub_to (st' := ⟨[(0, .v (.bool false))], [], 8, []⟩) [] (by decide) rfl rfl (⟨⟨_, rfl, .one .v⟩, trivial⟩) (trivial)) ?_
      refine T.ret ?_
      exact RetOk.same [.v (.bool false)] ⟨rfl, trivial⟩ rfl rfl rfl
  · replace H := cf H g7
    refine RunT.xn rfl rfl rfl (bo g7) rfl rfl ?_
    refine RunT.xn rfl rfl rfl (bo g7) rfl rfl ?_
    refine RunT.xn rfl rfl rfl (bo g7) rfl rfl ?_
    refine RunT.xn rfl rfl rfl (bo g7) rfl rfl ?_
    refine RunT.ot0 (x := .v (.bool false)) rfl rfl rfl rfl (.pickF (bo g7) rfl) ?_
    refine RunT.ot0 (x := .v (.bool false)) rfl rfl rfl rfl (.moveX rfl) ?_
    refine RunT.xn rfl rfl rfl rfl rfl rfl ?_
    refine RunT.xn rfl rfl rfl rfl rfl rfl ?_
    refine RunT.xn rfl rfl rfl rfl rfl rfl ?_
    refine RunT.ot0 (x := .v (.bool false)) rfl rfl rfl rfl (.pickF rfl rfl) ?_
    refine RunT.ot0 (x := .v (.bool false)) rfl rfl rfl rfl (.moveX rfl) ?_
    refine RunT.xn rfl rfl rfl rfl rfl rfl ?_
    refine RunT.xn rfl rfl rfl rfl rfl rfl ?_
    refine RunT.xn rfl rfl rfl rfl rfl rfl ?_
    refine RunT.xn rfl rfl rfl rfl rfl rfl ?_
    refine RunT.ot0 (x := .v (.bool false)) rfl rfl rfl rfl (.pickF rfl rfl) ?_
    refine RunT.ot0 (x := .v (.bool false)) rfl rfl rfl rfl (.moveX rfl) ?_
    refine RunT.xn rfl rfl rfl rfl rfl rfl ?_
    refine RunT.xn rfl rfl rfl rfl rfl rfl ?_
    refine RunT.xn rfl rfl rfl rfl rfl rfl ?_
    refine RunT.ot0 (x := .v (.bool false)) rfl rfl rfl rfl (.pickF rfl rfl) ?_
    refine RunT.ot0 (x := .v (.bool false)) rfl rfl rfl rfl (.moveX rfl) ?_
    refine RunT.xn rfl rfl rfl rfl rfl rfl ?_
    refine RunT.xn rfl rfl rfl rfl rfl rfl ?_
    refine RunT.xn rfl rfl rfl rfl rfl rfl ?_
    refine RunT.xn rfl rfl rfl rfl rfl rfl ?_
    refine RunT.ot0 (x := .v (.bool false)) rfl rfl rfl rfl (.pickF rfl rfl) ?_
    refine RunT.ot0 (x := .v (.bool false)) rfl rfl rfl rfl (.moveX rfl) ?_
    refine RunT.xn rfl rfl rfl rfl rfl rfl ?_
    refine RunT.xn rfl rfl rfl rfl rfl rfl ?_
    refine RunT.xn rfl rfl rfl rfl rfl rfl ?_
    refine RunT.ot0 (x := .v (.bool false)) rfl rfl rfl rfl (.pickF rfl rfl) ?_
    refine RunT.ot0 (x := .v (.bool false)) rfl rfl rfl rfl (.moveX rfl) ?_
    refine RunT.xn rfl rfl rfl rfl rfl rfl ?_
    refine RunT.xn rfl rfl rfl rfl rfl rfl ?_
    refine RunT.xn rfl rfl rfl rfl rfl rfl ?_
    refine RunT.xn rfl rfl rfl rfl rfl rfl ?_
    refine RunT.ot0 (x := .v (.bool false)) rfl rfl rfl rfl (.pickF rfl rfl) ?_
    refine RunT.ot0 (x := .v (.bool false)) rfl rfl rfl rfl (.moveX rfl) ?_
    refine RunT.xn rfl rfl rfl rfl rfl rfl ?_
    refine RunT.xn rfl rfl rfl rfl rfl rfl ?_
    refine RunT.xn rfl rfl rfl rfl rfl rfl ?_
    refine RunT.xn rfl rfl rfl rfl rfl rfl ?_
    refine RunT.ot0 (x := .v (.bool false)) rfl rfl rfl rfl (.pickF rfl rfl) ?_
    refine RunT.ot0 (x := .v (.bool false)) rfl rfl rfl rfl (.moveX rfl) ?_
    refine RunT.xn rfl rfl rfl rfl rfl rfl ?_
    refine RunT.xn rfl rfl rfl rfl rfl rfl ?_
    refine RunT.xn rfl rfl rfl rfl rfl rfl ?_
    refine RunT.xn rfl rfl rfl rfl rfl rfl ?_
    refine RunT.ot0 (x := .v (.bool false)) rfl rfl rfl rfl (.pickF rfl rfl) ?_
    refine RunT.ot0 (x := .v (.bool false)) rfl rfl rfl rfl (.moveX rfl) ?_
    refine RunT.xn rfl rfl rfl rfl rfl rfl ?_
    refine RunT.xn rfl rfl rfl rfl rfl rfl ?_
    refine RunT.xn rfl rfl rfl rfl rfl rfl ?_
    refine RunT.xn rfl rfl rfl rfl rfl rfl ?_
    refine RunT.ot0 (x := .v (.bool false)) rfl rfl rfl rfl (.pickF rfl rfl) ?_
    refine RunT.ot0 (x := .v (.bool false)) rfl rfl rfl rfl (.assignX rfl) ?_
    refine RunT.nil ?_
    obtain rfl := si H
    refine T.sub (sub_to (st' := ⟨[(0, .v (.bool false))], [], 8, []⟩) [] (by decide) rfl rfl (⟨⟨_, rfl, .one .v⟩, trivial⟩) (trivial)) ?_
    refine T.ret ?_
    exact RetOk.same [.v (.bool false)] ⟨rfl, trivial⟩ rfl rfl rfl
set_option maxHeartbeats 4000000 in
theorem law8_KillNear_pc (al : Bool) (k : Nat) (a0 : (List Int)) (o : Bool) (H : law8_KillNear k a0 = some o) : PC Try.prog al 14 [.lst (List.map eI a0)] (.v (.bool o)) := by
  unfold law8_KillNear at H
  refine PC.of_T Try.func14 rfl rfl (n := 117) rfl rfl (.inr rfl) ?_
  intro base B w0
  refine T.st (st' := ⟨[(0, .lst (List.map eI a0))], [], 0, []⟩) rfl ?_
  refine T.seq ?_
  refine T.region ?_
  refine RunT.ot0 (x := .v (.bool false)) rfl rfl rfl rfl (.assignX rfl) ?_
  refine RunT.nil ?_
  refine T.seq ?_
  refine T.region ?_
  refine RunT.ot0 (x := .lst (List.map eI a0)) rfl rfl rfl rfl (.moveX rfl) ?_
  obtain ⟨r1, h2, H⟩ := bs H
  refine RunT.ot0 (x := .agg [.lst (List.map eSeat r1.Seats), .v (.int .i64 r1.Gap), .v (.int .i64 r1.Radius), .lst (List.map eI r1.Kills), .lst (List.map ePole r1.Poles)]) rfl rfl rfl rfl (.callp (PC.frozen (law3_Make_pc false k a0 30 r1 h2)) rfl ⟨(.one .lst), (.one .v), trivial⟩ rfl rfl rfl) ?_
  refine RunT.ot1 (x := .ptr 0 0) (p0 := (0, some (.box [.v (.slice none 0 0), .v (.int .i64 0), .v (.int .i64 0), .v (.slice none 0 0), .v (.slice none 0 0)]))) (n' := 8) rfl rfl rfl rfl (.allocX in26.zero rfl rfl) rfl ?_
  refine RunT.on1 (x := .junk) (p0 := (0, some (.box [.lst (List.map eSeat r1.Seats), .v (.int .i64 r1.Gap), .v (.int .i64 r1.Radius), .lst (List.map eI r1.Kills), .lst (List.map ePole r1.Poles)]))) (n' := 16) rfl rfl rfl (.storePX ty26 rfl rfl rfl rfl rfl rfl rfl) rfl ?_
  refine RunT.nil ?_
  refine T.seq ?_
  refine T.region ?_
  refine RunT.ot1 (x := .ptr 16 0) (p0 := (16, some (.box (List.map eB (List.replicate 40 false))))) (n' := 24) rfl rfl rfl rfl (.allocAX (N := 40) (z := false) (f := eB) in62.zero rfl rfl) rfl ?_
  refine RunT.nil ?_
  refine T.seq ?_
  refine T.seq ?_
  refine T.region ?_
  refine RunT.ot0 (x := .v (.int .i64 0)) rfl rfl rfl rfl (.assignX rfl) ?_
  refine RunT.nil ?_
  obtain ⟨o17, E18, HO19⟩ := bs H
  refine T.cutE (⟨[(3, .ptr 0 0), (4, .ptr 1 0)], [(0, some (.box [.lst (List.map eSeat r1.Seats), .v (.int .i64 r1.Gap), .v (.int .i64 r1.Radius), .lst (List.map eI r1.Kills), .lst (List.map ePole r1.Poles)])), (1, some (.box (List.map eB o17)))], 8, []⟩) ?_ ?_
  · have H := E18
    refine T.block ?_
    refine T.loopS (fun n s => ∃ (v20 : (List Bool)) (v21 : Int), law8_KillNear_l0 k r1 n v20 v21 = some o17 ∧ s = ⟨[(3, .ptr 0 0), (4, .ptr 1 0), (5, .v (.int .i64 v21))], [(0, some (.box [.lst (List.map eSeat r1.Seats), .v (.int .i64 r1.Gap), .v (.int .i64 r1.Radius), .lst (List.map eI r1.Kills), .lst (List.map ePole r1.Poles)])), (1, some (.box (List.map eB v20)))], 8, []⟩) k ⟨_, ⟨List.replicate 40 false, 0, H, rfl⟩, sub_to [some 0, some 16] (by decide) rfl rfl (⟨⟨_, rfl, .one (.ptr rfl)⟩, ⟨⟨_, rfl, .one (.ptr rfl)⟩, ⟨⟨_, rfl, .one .v⟩, trivial⟩⟩⟩) (⟨⟨rfl, .inl ⟨_, _, rfl, rfl, .box ⟨.lst, .v, .v, .lst, .lst, trivial⟩⟩⟩, ⟨⟨rfl, .inl ⟨_, _, rfl, rfl, .boxL ro_B⟩⟩, trivial⟩⟩)⟩ ?_
    rintro n s ⟨v20, v21, H, rfl⟩
    rcases n with _ | n
    · cases (show none = some _ from H)
    rw [law8_KillNear_l0] at H
    refine T.seq ?_
    refine T.seq ?_
    refine T.sub (sub_pick [3, 4, 5] [0, 1] (st' := ⟨[(3, .ptr 0 0), (4, .ptr 1 0), (5, .v (.int .i64 v21))], [(0, some (.box [.lst (List.map eSeat r1.Seats), .v (.int .i64 r1.Gap), .v (.int .i64 r1.Radius), .lst (List.map eI r1.Kills), .lst (List.map ePole r1.Poles)])), (1, some (.box (List.map eB v20)))], 8, []⟩) rfl rfl rfl rfl rfl) ?_
    refine T.region ?_
    refine RunT.ot0 (x := .v (.int .i64 v21)) rfl rfl rfl rfl (.moveX rfl) ?_
    refine RunT.ot0 (x := .ptr 0 3) rfl rfl rfl rfl (.fieldPX fl26_3 rfl rfl) ?_
    refine RunT.ot0 (x := .lst (List.map eI r1.Kills)) rfl rfl rfl rfl (.loadP ty23 rfl rfl rfl) ?_
    refine RunT.ot0 (x := .v (.int .i64 (r1.Kills.length : Int))) rfl rfl rfl rfl (.lenLm Try.underlying23 rfl rfl) ?_
    refine RunT.ot0 (x := .v (.bool (decide (v21 < (r1.Kills.length : Int))))) rfl rfl rfl rfl (.bin rfl rfl (fun w => b_lss w) rfl) ?_
    refine RunT.nil ?_
    refine T.cond2 (t := decide (v21 < (r1.Kills.length : Int))) rfl (fun c22 => ?_) (fun c22 => ?_)
    · replace H := ct H c22
      refine T.skip ?_
      refine T.seq ?_
      refine T.block ?_
      refine T.region ?_
      refine RunT.ot0 (x := .ptr 0 3) rfl rfl rfl rfl (.fieldPX fl26_3 rfl rfl) ?_
      refine RunT.ot0 (x := .lst (List.map eI r1.Kills)) rfl rfl rfl rfl (.loadP ty23 rfl rfl rfl) ?_
      refine RunT.ot0 (x := .v (.int .i64 v21)) rfl rfl rfl rfl (.moveX rfl) ?_
      obtain ⟨y23, h24, H⟩ := bs H
      refine RunT.ot0 (x := .rptr [.v (.int .i64 y23)]) rfl rfl rfl rfl (.idxLX h24 enc_I sl23 rfl rfl rfl) ?_
      refine RunT.ot0 (x := .v (.int .i64 y23)) rfl rfl rfl rfl (.loadR ty3 rfl rfl) ?_
      obtain ⟨h25, H⟩ := gs H
      refine RunT.ot0 (x := .ptr 1 y23.toNat) rfl rfl rfl rfl (.idxAX ar62 rfl rfl h25) ?_
      obtain ⟨y26, h27, H⟩ := bs H
      refine RunT.on1 (x := .junk) (p0 := (1, some (.box (List.map eB (v20.set y23.toNat true))))) (n' := 16) rfl rfl rfl (.storeAX (f := eB) (z := true) ty4 rfl rfl rfl rfl rfl h27) rfl ?_
      refine RunT.nil ?_
      refine T.region ?_
      refine RunT.ot0 (x := .v (.int .i64 v21)) rfl rfl rfl rfl (.moveX rfl) ?_
      refine RunT.ot0 (x := .v (.int .i64 (wr (v21 + 1)))) rfl rfl rfl rfl (.bin rfl rfl (fun w => b_addw w) rfl) ?_
      refine RunT.ot0 (x := .v (.int .i64 (wr (v21 + 1)))) rfl rfl rfl rfl (.assignX rfl) ?_
      refine RunT.nil ?_
      exact ⟨n, Nat.lt_succ_self n, _, ⟨v20.set y23.toNat true, wr (v21 + 1), H, rfl⟩, (sub_to [some 0, some 1] (by decide) rfl rfl (⟨⟨_, rfl, .one (.ptr rfl)⟩, ⟨⟨_, rfl, .one (.ptr rfl)⟩, ⟨⟨_, rfl, .one .v⟩, trivial⟩⟩⟩) (⟨⟨rfl, .inl ⟨_, _, rfl, rfl, .box ⟨.lst, .v, .v, .lst, .lst, trivial⟩⟩⟩, ⟨⟨rfl, .inl ⟨_, _, rfl, rfl, .boxL ro_B⟩⟩, trivial⟩⟩))⟩
    · replace H := cf H c22
      refine T.exit ?_
      obtain rfl := si H
      exact (sub_to [some 0, some 1] (by decide) rfl rfl (⟨⟨_, rfl, .one (.ptr rfl)⟩, ⟨⟨_, rfl, .one (.ptr rfl)⟩, trivial⟩⟩) (⟨⟨rfl, .inl ⟨_, _, rfl, rfl, .box ⟨.lst, .v, .v, .lst, .lst, trivial⟩⟩⟩, ⟨⟨rfl, .inl ⟨_, _, rfl, rfl, .boxL ro_B⟩⟩, trivial⟩⟩))
  · intro s hS
    have H := HO19
    refine T.sub hS ?_
    refine T.seq ?_
    refine T.seq ?_
    refine T.region ?_
    refine RunT.ot0 (x := .v (.int .i64 0)) rfl rfl rfl rfl (.assignX rfl) ?_
    refine RunT.nil ?_
    obtain ⟨o136, E137, HO138⟩ := bs H
    refine T.cutPE (fun v139 => o136 = .go v139) (fun v139 => ⟨[(3, .ptr 0 0), (4, .ptr 1 0)], [(0, some (.box [.lst (List.map eSeat r1.Seats), .v (.int .i64 r1.Gap), .v (.int .i64 r1.Radius), .lst (List.map eI r1.Kills), .lst (List.map ePole r1.Poles)])), (1, some (.box (List.map eB v139)))], 8, []⟩) ?_ ?_
    · have H := E137
      refine T.block ?_
      refine T.loopS (fun n s => ∃ (v140 : (List Bool)) (v141 : Int), law8_KillNear_l3 k r1 n v140 v141 = some o136 ∧ s = ⟨[(3, .ptr 0 0), (4, .ptr 1 0), (6, .v (.int .i64 v141))], [(0, some (.box [.lst (List.map eSeat r1.Seats), .v (.int .i64 r1.Gap), .v (.int .i64 r1.Radius), .lst (List.map eI r1.Kills), .lst (List.map ePole r1.Poles)])), (1, some (.box (List.map eB v140)))], 8, []⟩) k ⟨_, ⟨o17, 0, H, rfl⟩, sub_to [some 0, some 1] (by decide) rfl rfl (⟨⟨_, rfl, .one (.ptr rfl)⟩, ⟨⟨_, rfl, .one (.ptr rfl)⟩, ⟨⟨_, rfl, .one .v⟩, trivial⟩⟩⟩) (⟨⟨rfl, .inl ⟨_, _, rfl, rfl, .box ⟨.lst, .v, .v, .lst, .lst, trivial⟩⟩⟩, ⟨⟨rfl, .inl ⟨_, _, rfl, rfl, .boxL ro_B⟩⟩, trivial⟩⟩)⟩ ?_
      rintro n s ⟨v140, v141, H, rfl⟩
      rcases n with _ | n
      · cases (show none = some _ from H)
      rw [law8_KillNear_l3] at H
      refine T.seq ?_
      refine T.seq ?_
      refine T.region ?_
      refine RunT.ot0 (x := .v (.int .i64 v141)) rfl rfl rfl rfl (.moveX rfl) ?_
      refine RunT.ot0 (x := .ptr 0 4) rfl rfl rfl rfl (.fieldPX fl26_4 rfl rfl) ?_
      refine RunT.ot0 (x := .lst (List.map ePole r1.Poles)) rfl rfl rfl rfl (.loadP ty24 rfl rfl rfl) ?_
      refine RunT.ot0 (x := .v (.int .i64 (r1.Poles.length : Int))) rfl rfl rfl rfl (.lenLm Try.underlying24 rfl rfl) ?_
      refine RunT.ot0 (x := .v (.bool (decide (v141 < (r1.Poles.length : Int))))) rfl rfl rfl rfl (.bin rfl rfl (fun w => b_lss w) rfl) ?_
      refine RunT.nil ?_
      refine T.cond2 (t := decide (v141 < (r1.Poles.length : Int))) rfl (fun c142 => ?_) (fun c142 => ?_)
      · replace H := ct H c142
        refine T.skip ?_
        refine T.seq ?_
        refine T.block ?_
        refine T.seq ?_
        refine T.sub (sub_pick [3, 4, 6] [0, 1] (st' := ⟨[(3, .ptr 0 0), (4, .ptr 1 0), (6, .v (.int .i64 v141))], [(0, some (.box [.lst (List.map eSeat r1.Seats), .v (.int .i64 r1.Gap), .v (.int .i64 r1.Radius), .lst (List.map eI r1.Kills), .lst (List.map ePole r1.Poles)])), (1, some (.box (List.map eB v140)))], 8, []⟩) rfl rfl rfl rfl rfl) ?_
        refine T.draw (wr := []) mixed rfl rfl ?_ rfl
        refine RunD.ot0 (x := .agg [.lst (List.map eSeat r1.Seats), .v (.int .i64 r1.Gap), .v (.int .i64 r1.Radius), .lst (List.map eI r1.Kills), .lst (List.map ePole r1.Poles)]) rfl rfl rfl rfl (.loadP ty26 rfl rfl rfl) rfl ?_
        refine RunD.ot0 (x := .ptr 0 4) rfl rfl rfl rfl (.fieldPX fl26_4 rfl rfl) rfl ?_
        refine RunD.ot0 (x := .lst (List.map ePole r1.Poles)) rfl rfl rfl rfl (.loadP ty24 rfl rfl rfl) rfl ?_
        refine RunD.ot0 (x := .v (.int .i64 v141)) rfl rfl rfl rfl (.moveX rfl) rfl ?_
        obtain ⟨y151, h152, H⟩ := bs H
        refine RunD.ot0 (x := .rptr [.v (.int .i64 y151.X), .v (.int .i64 y151.Y), .v (.int .i64 y151.R)]) rfl rfl rfl rfl (.idxLX h152 enc_Pole sl24 rfl rfl rfl) rfl ?_
        refine RunD.ot0 (x := .rptr [.v (.int .i64 y151.X), .v (.int .i64 y151.Y), .v (.int .i64 y151.R)]) rfl rfl rfl rfl (.fieldRX fl60_0 rfl rfl) rfl ?_
        refine RunD.ot0 (x := .v (.int .i64 y151.X)) rfl rfl rfl rfl (.loadR ty3 rfl rfl) rfl ?_
        refine RunD.ot0 (x := .ptr 0 4) rfl rfl rfl rfl (.fieldPX fl26_4 rfl rfl) rfl ?_
        refine RunD.ot0 (x := .lst (List.map ePole r1.Poles)) rfl rfl rfl rfl (.loadP ty24 rfl rfl rfl) rfl ?_
        refine RunD.ot0 (x := .v (.int .i64 v141)) rfl rfl rfl rfl (.moveX rfl) rfl ?_
        obtain ⟨y153, h154, H⟩ := bs H
        refine RunD.ot0 (x := .rptr [.v (.int .i64 y153.X), .v (.int .i64 y153.Y), .v (.int .i64 y153.R)]) rfl rfl rfl rfl (.idxLX h154 enc_Pole sl24 rfl rfl rfl) rfl ?_
        refine RunD.ot0 (x := .rptr [.v (.int .i64 y153.Y), .v (.int .i64 y153.R)]) rfl rfl rfl rfl (.fieldRX fl60_1 rfl rfl) rfl ?_
        refine RunD.ot0 (x := .v (.int .i64 y153.Y)) rfl rfl rfl rfl (.loadR ty3 rfl rfl) rfl ?_
        refine RunD.ot0 (x := .ptr 0 4) rfl rfl rfl rfl (.fieldPX fl26_4 rfl rfl) rfl ?_
        refine RunD.ot0 (x := .lst (List.map ePole r1.Poles)) rfl rfl rfl rfl (.loadP ty24 rfl rfl rfl) rfl ?_
        refine RunD.ot0 (x := .v (.int .i64 v141)) rfl rfl rfl rfl (.moveX rfl) rfl ?_
        obtain ⟨y155, h156, H⟩ := bs H
        refine RunD.ot0 (x := .rptr [.v (.int .i64 y155.X), .v (.int .i64 y155.Y), .v (.int .i64 y155.R)]) rfl rfl rfl rfl (.idxLX h156 enc_Pole sl24 rfl rfl rfl) rfl ?_
        refine RunD.ot0 (x := .rptr [.v (.int .i64 y155.R)]) rfl rfl rfl rfl (.fieldRX fl60_2 rfl rfl) rfl ?_
        refine RunD.ot0 (x := .v (.int .i64 y155.R)) rfl rfl rfl rfl (.loadR ty3 rfl rfl) rfl ?_
        obtain ⟨r157, h158, H⟩ := bs H
        refine RunD.ot0 (x := .lst (List.map eI r157)) rfl rfl rfl rfl (.callp (PC.frozen (geom_Near_pc false k r1 y151.X y153.Y y155.R r157 h158)) rfl ⟨(.agg' ⟨.lst, .v, .v, .lst, .lst, trivial⟩), (.one .v), (.one .v), (.one .v), trivial⟩ rfl rfl rfl) rfl ?_
        refine RunD.ot0 (x := .lst (List.map eI r157)) rfl rfl rfl rfl (.assignX rfl) rfl ?_
        refine RunD.nil (by kernel_rfl) ⟨rfl, rfl, ?_⟩
        refine T.seq ?_
        refine T.sub (sub_pick [3, 4, 6, 7] [0, 1] (st' := ⟨[(3, .ptr 0 0), (4, .ptr 1 0), (6, .v (.int .i64 v141)), (7, .lst (List.map eI r157))], [(0, some (.box [.lst (List.map eSeat r1.Seats), .v (.int .i64 r1.Gap), .v (.int .i64 r1.Radius), .lst (List.map eI r1.Kills), .lst (List.map ePole r1.Poles)])), (1, some (.box (List.map eB v140)))], 176, []⟩) rfl rfl rfl rfl rfl) ?_
        refine T.region ?_
        refine RunT.ot0 (x := .v (.int .i64 0)) rfl rfl rfl rfl (.assignX rfl) ?_
        refine RunT.nil ?_
        obtain ⟨o185, E186, HO187⟩ := bs H
        refine T.cutPE (fun v188 => o185 = .go v188) (fun v188 => ⟨[(3, .ptr 0 0), (4, .ptr 1 0), (6, .v (.int .i64 v141))], [(0, some (.box [.lst (List.map eSeat r1.Seats), .v (.int .i64 r1.Gap), .v (.int .i64 r1.Radius), .lst (List.map eI r1.Kills), .lst (List.map ePole r1.Poles)])), (1, some (.box (List.map eB v188)))], 8, []⟩) ?_ ?_
        · have H := E186
          refine T.block ?_
          refine T.loopS (fun n s => ∃ (v189 : (List Bool)) (v190 : Int), law8_KillNear_l4 k r1 r157 n v189 v190 = some o185 ∧ s = ⟨[(3, .ptr 0 0), (4, .ptr 1 0), (6, .v (.int .i64 v141)), (7, .lst (List.map eI r157)), (8, .v (.int .i64 v190))], [(0, some (.box [.lst (List.map eSeat r1.Seats), .v (.int .i64 r1.Gap), .v (.int .i64 r1.Radius), .lst (List.map eI r1.Kills), .lst (List.map ePole r1.Poles)])), (1, some (.box (List.map eB v189)))], 8, []⟩) k ⟨_, ⟨v140, 0, H, rfl⟩, sub_to [some 0, some 1] (by decide) rfl rfl (⟨⟨_, rfl, .one (.ptr rfl)⟩, ⟨⟨_, rfl, .one (.ptr rfl)⟩, ⟨⟨_, rfl, .one .v⟩, ⟨⟨_, rfl, .one .lst⟩, ⟨⟨_, rfl, .one .v⟩, trivial⟩⟩⟩⟩⟩) (⟨⟨rfl, .inl ⟨_, _, rfl, rfl, .box ⟨.lst, .v, .v, .lst, .lst, trivial⟩⟩⟩, ⟨⟨rfl, .inl ⟨_, _, rfl, rfl, .boxL ro_B⟩⟩, trivial⟩⟩)⟩ ?_
          rintro n s ⟨v189, v190, H, rfl⟩
          rcases n with _ | n
          · cases (show none = some _ from H)
          rw [law8_KillNear_l4] at H
          refine T.seq ?_
          refine T.seq ?_
          refine T.region ?_
          refine RunT.ot0 (x := .v (.int .i64 v190)) rfl rfl rfl rfl (.moveX rfl) ?_
          refine RunT.ot0 (x := .lst (List.map eI r157)) rfl rfl rfl rfl (.moveX rfl) ?_
          refine RunT.ot0 (x := .v (.int .i64 (r157.length : Int))) rfl rfl rfl rfl (.lenLm Try.underlying23 rfl rfl) ?_
          refine RunT.ot0 (x := .v (.bool (decide (v190 < (r157.length : Int))))) rfl rfl rfl rfl (.bin rfl rfl (fun w => b_lss w) rfl) ?_
          refine RunT.nil ?_
          refine T.cond2 (t := decide (v190 < (r157.length : Int))) rfl (fun c191 => ?_) (fun c191 => ?_)
          · replace H := ct H c191
            refine T.skip ?_
            refine T.seq ?_
            refine T.block ?_
            refine T.seq ?_
            refine T.seq ?_
            refine T.draw (wr := []) mixed rfl rfl ?_ rfl
            refine RunD.ot0 (x := .lst (List.map eI r157)) rfl rfl rfl rfl (.moveX rfl) rfl ?_
            refine RunD.ot0 (x := .v (.int .i64 v190)) rfl rfl rfl rfl (.moveX rfl) rfl ?_
            obtain ⟨y197, h198, H⟩ := bs H
            refine RunD.ot0 (x := .rptr [.v (.int .i64 y197)]) rfl rfl rfl rfl (.idxLX h198 enc_I sl23 rfl rfl rfl) rfl ?_
            refine RunD.ot0 (x := .v (.int .i64 y197)) rfl rfl rfl rfl (.loadR ty3 rfl rfl) rfl ?_
            refine RunD.ot0 (x := .v (.bool (decide (y197 < 0)))) rfl rfl rfl rfl (.bin rfl rfl (fun w => b_lss w) rfl) rfl ?_
            refine RunD.ot0 (x := .v (.bool (decide (y197 < 0)))) rfl rfl rfl rfl (.moveX rfl) rfl ?_
            refine RunD.cases (t := 64) (c := decide (y197 < 0)) rfl (fun g199 => ?_) (fun g199 => ?_)
            · replace H := ct H g199
              refine RunD.xn rfl rfl rfl (bo g199) rfl rfl ?_
              refine RunD.xn rfl rfl rfl (bo g199) rfl rfl ?_
              refine RunD.xn rfl rfl rfl (bo g199) rfl rfl ?_
              refine RunD.xn rfl rfl rfl (bo g199) rfl rfl ?_
              refine RunD.xn rfl rfl rfl (bo g199) rfl rfl ?_
              refine RunD.xn rfl rfl rfl (bo g199) rfl rfl ?_
              refine RunD.xn rfl rfl rfl (bo g199) rfl rfl ?_
              refine RunD.xn rfl rfl rfl (bo g199) rfl rfl ?_
              refine RunD.ot0 (x := .v (.bool true)) rfl rfl rfl rfl (.pickT (bo g199) rfl) rfl ?_
              refine RunD.nil (by kernel_rfl) ⟨rfl, rfl, ?_⟩
              refine T.condT rfl ?_
              refine T.seq ?_
              refine T.sub (sub_pick [] [] (st' := ⟨[], [], 128, []⟩) rfl rfl rfl rfl rfl) ?_
              refine T.region ?_
              refine RunT.ot0 (x := .v (.bool false)) rfl rfl rfl rfl (.assignX rfl) ?_
              refine RunT.nil ?_
              obtain rfl := si H
              have HX := exr HO187
              obtain rfl := si HX
              have HX := exr HO138
              obtain rfl := si HX
              refine T.sub (sub_to (st' := ⟨[(2, .v (.bool false))], [], 8, []⟩) [] (by decide) rfl rfl (⟨⟨_, rfl, .one .v⟩, trivial⟩) (trivial)) ?_
              refine T.ret ?_
              exact RetOk.same [.v (.bool false)] ⟨rfl, trivial⟩ rfl rfl rfl
            · replace H := cf H g199
              refine RunD.gt0 (x := .lst (List.map eI r157)) rfl rfl rfl (bo g199) rfl rfl (.moveX rfl) rfl ?_
              refine RunD.gt0 (x := .v (.int .i64 v190)) rfl rfl rfl (bo g199) rfl rfl (.moveX rfl) rfl ?_
              obtain ⟨y200, h201, H⟩ := bs H
              refine RunD.gt0 (x := .rptr [.v (.int .i64 y200)]) rfl rfl rfl (bo g199) rfl rfl (.idxLX h201 enc_I sl23 rfl rfl rfl) rfl ?_
              refine RunD.gt0 (x := .v (.int .i64 y200)) rfl rfl rfl (bo g199) rfl rfl (.loadR ty3 rfl rfl) rfl ?_
              refine RunD.gt0 (x := .ptr 0 0) rfl rfl rfl (bo g199) rfl rfl (.fieldPX fl26_0 rfl rfl) rfl ?_
              refine RunD.gt0 (x := .lst (List.map eSeat r1.Seats)) rfl rfl rfl (bo g199) rfl rfl (.loadP ty22 rfl rfl rfl) rfl ?_
              refine RunD.gt0 (x := .v (.int .i64 (r1.Seats.length : Int))) rfl rfl rfl (bo g199) rfl rfl (.lenLm Try.underlying22 rfl rfl) rfl ?_
              refine RunD.gt0 (x := .v (.bool (decide ((r1.Seats.length : Int) ≤ y200)))) rfl rfl rfl (bo g199) rfl rfl (.bin rfl rfl (fun w => b_geq w) rfl) rfl ?_
              refine RunD.ot0 (x := .v (.bool (decide ((r1.Seats.length : Int) ≤ y200)))) rfl rfl rfl rfl (.pickF (bo g199) rfl) rfl ?_
              refine RunD.nil (by kernel_rfl) ⟨rfl, rfl, ?_⟩
              refine T.cond2 (t := decide ((r1.Seats.length : Int) ≤ y200)) rfl (fun c202 => ?_) (fun c202 => ?_)
              · replace H := ct H c202
                refine T.seq ?_
                refine T.sub (sub_pick [] [] (st' := ⟨[], [], 128, []⟩) rfl rfl rfl rfl rfl) ?_
                refine T.region ?_
                refine RunT.ot0 (x := .v (.bool false)) rfl rfl rfl rfl (.assignX rfl) ?_
                refine RunT.nil ?_
                obtain rfl := si H
                have HX := exr HO187
                obtain rfl := si HX
                have HX := exr HO138
                obtain rfl := si HX
                refine T.sub (sub_to (st' := ⟨[(2, .v (.bool false))], [], 8, []⟩) [] (by decide) rfl rfl (⟨⟨_, rfl, .one .v⟩, trivial⟩) (trivial)) ?_
                refine T.ret ?_
                exact RetOk.same [.v (.bool false)] ⟨rfl, trivial⟩ rfl rfl rfl
              · replace H := cf H c202
                refine T.skip ?_
                refine T.region ?_
                refine RunT.ot0 (x := .lst (List.map eI r157)) rfl rfl rfl rfl (.moveX rfl) ?_
                refine RunT.ot0 (x := .v (.int .i64 v190)) rfl rfl rfl rfl (.moveX rfl) ?_
                obtain ⟨y203, h204, H⟩ := bs H
                refine RunT.ot0 (x := .rptr [.v (.int .i64 y203)]) rfl rfl rfl rfl (.idxLX h204 enc_I sl23 rfl rfl rfl) ?_
                refine RunT.ot0 (x := .v (.int .i64 y203)) rfl rfl rfl rfl (.loadR ty3 rfl rfl) ?_
                obtain ⟨h205, H⟩ := gs H
                refine RunT.ot0 (x := .ptr 1 y203.toNat) rfl rfl rfl rfl (.idxAX ar62 rfl rfl h205) ?_
                obtain ⟨y206, h207, H⟩ := bs H
                refine RunT.on1 (x := .junk) (p0 := (1, some (.box (List.map eB (v189.set y203.toNat true))))) (n' := 136) rfl rfl rfl (.storeAX (f := eB) (z := true) ty4 rfl rfl rfl rfl rfl h207) rfl ?_
                refine RunT.nil ?_
                refine T.region ?_
                refine RunT.ot0 (x := .v (.int .i64 v190)) rfl rfl rfl rfl (.moveX rfl) ?_
                refine RunT.ot0 (x := .v (.int .i64 (wr (v190 + 1)))) rfl rfl rfl rfl (.bin rfl rfl (fun w => b_addw w) rfl) ?_
                refine RunT.ot0 (x := .v (.int .i64 (wr (v190 + 1)))) rfl rfl rfl rfl (.assignX rfl) ?_
                refine RunT.nil ?_
                exact ⟨n, Nat.lt_succ_self n, _, ⟨v189.set y203.toNat true, wr (v190 + 1), H, rfl⟩, (sub_to [some 0, some 1] (by decide) rfl rfl (⟨⟨_, rfl, .one (.ptr rfl)⟩, ⟨⟨_, rfl, .one (.ptr rfl)⟩, ⟨⟨_, rfl, .one .v⟩, ⟨⟨_, rfl, .one .lst⟩, ⟨⟨_, rfl, .one .v⟩, trivial⟩⟩⟩⟩⟩) (⟨⟨rfl, .inl ⟨_, _, rfl, rfl, .box ⟨.lst, .v, .v, .lst, .lst, trivial⟩⟩⟩, ⟨⟨rfl, .inl ⟨_, _, rfl, rfl, .boxL ro_B⟩⟩, trivial⟩⟩))⟩
          · replace H := cf H c191
            refine T.exit ?_
            obtain rfl := si H
            exact ⟨_, rfl, (sub_to [some 0, some 1] (by decide) rfl rfl (⟨⟨_, rfl, .one (.ptr rfl)⟩, ⟨⟨_, rfl, .one (.ptr rfl)⟩, ⟨⟨_, rfl, .one .v⟩, trivial⟩⟩⟩) (⟨⟨rfl, .inl ⟨_, _, rfl, rfl, .box ⟨.lst, .v, .v, .lst, .lst, trivial⟩⟩⟩, ⟨⟨rfl, .inl ⟨_, _, rfl, rfl, .boxL ro_B⟩⟩, trivial⟩⟩))⟩
        · intro v188 s hR hS
          subst hR
          have H := exg HO187
          refine T.sub hS ?_
          refine T.region ?_
          refine RunT.ot0 (x := .v (.int .i64 v141)) rfl rfl rfl rfl (.moveX rfl) ?_
          refine RunT.ot0 (x := .v (.int .i64 (wr (v141 + 1)))) rfl rfl rfl rfl (.bin rfl rfl (fun w => b_addw w) rfl) ?_
          refine RunT.ot0 (x := .v (.int .i64 (wr (v141 + 1)))) rfl rfl rfl rfl (.assignX rfl) ?_
          refine RunT.nil ?_
          exact ⟨n, Nat.lt_succ_self n, _, ⟨v188, wr (v141 + 1), H, rfl⟩, (sub_to [some 0, some 1] (by decide) rfl rfl (⟨⟨_, rfl, .one (.ptr rfl)⟩, ⟨⟨_, rfl, .one (.ptr rfl)⟩, ⟨⟨_, rfl, .one .v⟩, trivial⟩⟩⟩) (⟨⟨rfl, .inl ⟨_, _, rfl, rfl, .box ⟨.lst, .v, .v, .lst, .lst, trivial⟩⟩⟩, ⟨⟨rfl, .inl ⟨_, _, rfl, rfl, .boxL ro_B⟩⟩, trivial⟩⟩))⟩
      · replace H := cf H c142
        refine T.exit ?_
        obtain rfl := si H
        exact ⟨_, rfl, (sub_to [some 0, some 1] (by decide) rfl rfl (⟨⟨_, rfl, .one (.ptr rfl)⟩, ⟨⟨_, rfl, .one (.ptr rfl)⟩, trivial⟩⟩) (⟨⟨rfl, .inl ⟨_, _, rfl, rfl, .box ⟨.lst, .v, .v, .lst, .lst, trivial⟩⟩⟩, ⟨⟨rfl, .inl ⟨_, _, rfl, rfl, .boxL ro_B⟩⟩, trivial⟩⟩))⟩
    · intro v139 s hR hS
      subst hR
      have H := exg HO138
      refine T.sub hS ?_
      refine T.seq ?_
      refine T.region ?_
      refine RunT.ot0 (x := .agg [.lst (List.map eSeat r1.Seats), .v (.int .i64 r1.Gap), .v (.int .i64 r1.Radius), .lst (List.map eI r1.Kills), .lst (List.map ePole r1.Poles)]) rfl rfl rfl rfl (.loadP ty26 rfl rfl rfl) ?_
      obtain ⟨r208, h209, H⟩ := bs H
      refine RunT.ot0 (x := .lst (List.map eB r208)) rfl rfl rfl rfl (.callp (PC.frozen (kill_Usable_pc false k r1 r208 h209)) rfl ⟨(.agg' ⟨.lst, .v, .v, .lst, .lst, trivial⟩), trivial⟩ rfl rfl rfl) ?_
      refine RunT.ot0 (x := .lst (List.map eB r208)) rfl rfl rfl rfl (.assignX rfl) ?_
      refine RunT.nil ?_
      refine T.seq ?_
      refine T.seq ?_
      refine T.sub (sub_pick [3, 4, 9] [0, 1] (st' := ⟨[(3, .ptr 0 0), (4, .ptr 1 0), (9, .lst (List.map eB r208))], [(0, some (.box [.lst (List.map eSeat r1.Seats), .v (.int .i64 r1.Gap), .v (.int .i64 r1.Radius), .lst (List.map eI r1.Kills), .lst (List.map ePole r1.Poles)])), (1, some (.box (List.map eB v139)))], 8, []⟩) rfl rfl rfl rfl rfl) ?_
      refine T.region ?_
      refine RunT.ot0 (x := .lst (List.map eB r208)) rfl rfl rfl rfl (.moveX rfl) ?_
      refine RunT.ot0 (x := .v (.int .i64 (r208.length : Int))) rfl rfl rfl rfl (.lenLm Try.underlying43 rfl rfl) ?_
      refine RunT.ot0 (x := .ptr 0 0) rfl rfl rfl rfl (.fieldPX fl26_0 rfl rfl) ?_
      refine RunT.ot0 (x := .lst (List.map eSeat r1.Seats)) rfl rfl rfl rfl (.loadP ty22 rfl rfl rfl) ?_
      refine RunT.ot0 (x := .v (.int .i64 (r1.Seats.length : Int))) rfl rfl rfl rfl (.lenLm Try.underlying22 rfl rfl) ?_
      refine RunT.ot0 (x := .v (.bool (!decide ((r208.length : Int) = (r1.Seats.length : Int))))) rfl rfl rfl rfl (.bin rfl rfl (fun w => b_neq w) rfl) ?_
      refine RunT.nil ?_
      refine T.cond2 (t := !decide ((r208.length : Int) = (r1.Seats.length : Int))) rfl (fun c210 => ?_) (fun c210 => ?_)
      · replace H := ct H c210
        refine T.seq ?_
        refine T.region ?_
        refine RunT.ot0 (x := .v (.bool false)) rfl rfl rfl rfl (.assignX rfl) ?_
        refine RunT.nil ?_
        obtain rfl := si H
        refine T.sub (sub_to (st' := ⟨[(2, .v (.bool false))], [], 8, []⟩) [] (by decide) rfl rfl (⟨⟨_, rfl, .one .v⟩, trivial⟩) (trivial)) ?_
        refine T.ret ?_
        exact RetOk.same [.v (.bool false)] ⟨rfl, trivial⟩ rfl rfl rfl
      · replace H := cf H c210
        refine T.skip ?_
        refine T.seq ?_
        refine T.seq ?_
        refine T.region ?_
        refine RunT.ot0 (x := .v (.int .i64 0)) rfl rfl rfl rfl (.assignX rfl) ?_
        refine RunT.nil ?_
        obtain ⟨o238, E239, HO240⟩ := bs H
        refine T.cutPE (fun v241 => o238 = .go v241) (fun v241 => ⟨[(3, .ptr 0 0)], [(0, some (.box [.lst (List.map eSeat r1.Seats), .v (.int .i64 r1.Gap), .v (.int .i64 r1.Radius), .lst (List.map eI r1.Kills), .lst (List.map ePole r1.Poles)]))], 8, []⟩) ?_ ?_
        · have H := E239
          refine T.block ?_
          refine T.loopS (fun n s => ∃ (v242 : Int), law8_KillNear_l5 k r1 r208 v139 n v242 = some o238 ∧ s = ⟨[(3, .ptr 0 0), (4, .ptr 1 0), (9, .lst (List.map eB r208)), (10, .v (.int .i64 v242))], [(0, some (.box [.lst (List.map eSeat r1.Seats), .v (.int .i64 r1.Gap), .v (.int .i64 r1.Radius), .lst (List.map eI r1.Kills), .lst (List.map ePole r1.Poles)])), (1, some (.box (List.map eB v139)))], 8, []⟩) k ⟨_, ⟨0, H, rfl⟩, sub_to [some 0, some 1] (by decide) rfl rfl (⟨⟨_, rfl, .one (.ptr rfl)⟩, ⟨⟨_, rfl, .one (.ptr rfl)⟩, ⟨⟨_, rfl, .one .lst⟩, ⟨⟨_, rfl, .one .v⟩, trivial⟩⟩⟩⟩) (⟨⟨rfl, .inl ⟨_, _, rfl, rfl, .box ⟨.lst, .v, .v, .lst, .lst, trivial⟩⟩⟩, ⟨⟨rfl, .inl ⟨_, _, rfl, rfl, .boxL ro_B⟩⟩, trivial⟩⟩)⟩ ?_
          rintro n s ⟨v242, H, rfl⟩
          rcases n with _ | n
          · cases (show none = some _ from H)
          rw [law8_KillNear_l5] at H
          refine T.seq ?_
          refine T.seq ?_
          refine T.region ?_
          refine RunT.ot0 (x := .v (.int .i64 v242)) rfl rfl rfl rfl (.moveX rfl) ?_
          refine RunT.ot0 (x := .lst (List.map eB r208)) rfl rfl rfl rfl (.moveX rfl) ?_
          refine RunT.ot0 (x := .v (.int .i64 (r208.length : Int))) rfl rfl rfl rfl (.lenLm Try.underlying43 rfl rfl) ?_
          refine RunT.ot0 (x := .v (.bool (decide (v242 < (r208.length : Int))))) rfl rfl rfl rfl (.bin rfl rfl (fun w => b_lss w) rfl) ?_
          refine RunT.nil ?_
          refine T.cond2 (t := decide (v242 < (r208.length : Int))) rfl (fun c243 => ?_) (fun c243 => ?_)
          · replace H := ct H c243
            refine T.skip ?_
            refine T.seq ?_
            refine T.block ?_
            refine T.seq ?_
            refine T.draw (wr := []) mixed rfl rfl ?_ rfl
            refine RunD.ot0 (x := .lst (List.map eB r208)) rfl rfl rfl rfl (.moveX rfl) rfl ?_
            refine RunD.ot0 (x := .v (.int .i64 v242)) rfl rfl rfl rfl (.moveX rfl) rfl ?_
            obtain ⟨y255, h256, H⟩ := bs H
            refine RunD.ot0 (x := .rptr [.v (.bool y255)]) rfl rfl rfl rfl (.idxLX h256 enc_B sl43 rfl rfl rfl) rfl ?_
            refine RunD.ot0 (x := .v (.bool y255)) rfl rfl rfl rfl (.loadR ty4 rfl rfl) rfl ?_
            refine RunD.ot0 (x := .v (.int .i64 v242)) rfl rfl rfl rfl (.moveX rfl) rfl ?_
            obtain ⟨h257, H⟩ := gs H
            refine RunD.ot0 (x := .ptr 1 v242.toNat) rfl rfl rfl rfl (.idxAX ar62 rfl rfl h257) rfl ?_
            obtain ⟨y258, h259, H⟩ := bs H
            refine RunD.ot0 (x := .v (.bool y258)) rfl rfl rfl rfl (.loadAX (f := eB) ty4 rfl rfl h259) rfl ?_
            refine RunD.ot0 (x := .v (.bool (y255 == y258))) rfl rfl rfl rfl (.bin rfl rfl (fun w => b_eqB w Try.underlying4) rfl) rfl ?_
            refine RunD.ot0 (x := .v (.bool (y255 == y258))) rfl rfl rfl rfl (.moveX rfl) rfl ?_
            refine RunD.cases (t := 101) (c := y255 == y258) rfl (fun g260 => ?_) (fun g260 => ?_)
            · replace H := ct H g260
              refine RunD.xn rfl rfl rfl (bo g260) rfl rfl ?_
              refine RunD.xn rfl rfl rfl (bo g260) rfl rfl ?_
              refine RunD.xn rfl rfl rfl (bo g260) rfl rfl ?_
              refine RunD.xn rfl rfl rfl (bo g260) rfl rfl ?_
              refine RunD.xn rfl rfl rfl (bo g260) rfl rfl ?_
              refine RunD.xn rfl rfl rfl (bo g260) rfl rfl ?_
              refine RunD.xn rfl rfl rfl (bo g260) rfl rfl ?_
              refine RunD.xn rfl rfl rfl (bo g260) rfl rfl ?_
              refine RunD.xn rfl rfl rfl (bo g260) rfl rfl ?_
              refine RunD.ot0 (x := .v (.bool true)) rfl rfl rfl rfl (.pickT (bo g260) rfl) rfl ?_
              refine RunD.nil (by kernel_rfl) ⟨rfl, rfl, ?_⟩
              refine T.condT rfl ?_
              refine T.seq ?_
              refine T.sub (sub_pick [] [] (st' := ⟨[], [], 160, []⟩) rfl rfl rfl rfl rfl) ?_
              refine T.region ?_
              refine RunT.ot0 (x := .v (.bool false)) rfl rfl rfl rfl (.assignX rfl) ?_
              refine RunT.nil ?_
              obtain rfl := si H
              have HX := exr HO240
              obtain rfl := si HX
              refine T.sub (sub_to (st' := ⟨[(2, .v (.bool false))], [], 8, []⟩) [] (by decide) rfl rfl (⟨⟨_, rfl, .one .v⟩, trivial⟩) (trivial)) ?_
              refine T.ret ?_
              exact RetOk.same [.v (.bool false)] ⟨rfl, trivial⟩ rfl rfl rfl
            · replace H := cf H g260
              refine RunD.gt0 (x := .agg [.lst (List.map eSeat r1.Seats), .v (.int .i64 r1.Gap), .v (.int .i64 r1.Radius), .lst (List.map eI r1.Kills), .lst (List.map ePole r1.Poles)]) rfl rfl rfl (bo g260) rfl rfl (.loadP ty26 rfl rfl rfl) rfl ?_
              refine RunD.gt0 (x := .v (.int .i64 v242)) rfl rfl rfl (bo g260) rfl rfl (.moveX rfl) rfl ?_
              obtain ⟨r261, h262, H⟩ := bs H
              refine RunD.gt0 (x := .lst (List.map eI r261)) rfl rfl rfl (bo g260) rfl rfl (.callp (PC.frozen (kill_By_pc false k r1 v242 r261 h262)) rfl ⟨(.agg' ⟨.lst, .v, .v, .lst, .lst, trivial⟩), (.one .v), trivial⟩ rfl rfl rfl) rfl ?_
              refine RunD.gt0 (x := .v (.int .i64 (r261.length : Int))) rfl rfl rfl (bo g260) rfl rfl (.lenLm Try.underlying23 rfl rfl) rfl ?_
              refine RunD.gt0 (x := .v (.bool (decide (0 < (r261.length : Int))))) rfl rfl rfl (bo g260) rfl rfl (.bin rfl rfl (fun w => b_gtr w) rfl) rfl ?_
              refine RunD.gt0 (x := .v (.int .i64 v242)) rfl rfl rfl (bo g260) rfl rfl (.moveX rfl) rfl ?_
              obtain ⟨h263, H⟩ := gs H
              refine RunD.gt0 (x := .ptr 1 v242.toNat) rfl rfl rfl (bo g260) rfl rfl (.idxAX ar62 rfl rfl h263) rfl ?_
              obtain ⟨y264, h265, H⟩ := bs H
              refine RunD.gt0 (x := .v (.bool y264)) rfl rfl rfl (bo g260) rfl rfl (.loadAX (f := eB) ty4 rfl rfl h265) rfl ?_
              refine RunD.gt0 (x := .v (.bool (!((decide (0 < (r261.length : Int))) == y264)))) rfl rfl rfl (bo g260) rfl rfl (.bin rfl rfl (fun w => b_neB w Try.underlying4) rfl) rfl ?_
              refine RunD.ot0 (x := .v (.bool (!((decide (0 < (r261.length : Int))) == y264)))) rfl rfl rfl rfl (.pickF (bo g260) rfl) rfl ?_
              refine RunD.nil (by kernel_rfl) ⟨rfl, rfl, ?_⟩
              refine T.cond2 (t := !((decide (0 < (r261.length : Int))) == y264)) rfl (fun c266 => ?_) (fun c266 => ?_)
              · replace H := ct H c266
                refine T.seq ?_
                refine T.sub (sub_pick [] [] (st' := ⟨[], [], 160, []⟩) rfl rfl rfl rfl rfl) ?_
                refine T.region ?_
                refine RunT.ot0 (x := .v (.bool false)) rfl rfl rfl rfl (.assignX rfl) ?_
                refine RunT.nil ?_
                obtain rfl := si H
                have HX := exr HO240
                obtain rfl := si HX
                refine T.sub (sub_to (st' := ⟨[(2, .v (.bool false))], [], 8, []⟩) [] (by decide) rfl rfl (⟨⟨_, rfl, .one .v⟩, trivial⟩) (trivial)) ?_
                refine T.ret ?_
                exact RetOk.same [.v (.bool false)] ⟨rfl, trivial⟩ rfl rfl rfl
              · replace H := cf H c266
                refine T.skip ?_
                refine T.region ?_
                refine RunT.ot0 (x := .v (.int .i64 v242)) rfl rfl rfl rfl (.moveX rfl) ?_
                refine RunT.ot0 (x := .v (.int .i64 (wr (v242 + 1)))) rfl rfl rfl rfl (.bin rfl rfl (fun w => b_addw w) rfl) ?_
                refine RunT.ot0 (x := .v (.int .i64 (wr (v242 + 1)))) rfl rfl rfl rfl (.assignX rfl) ?_
                refine RunT.nil ?_
                exact ⟨n, Nat.lt_succ_self n, _, ⟨wr (v242 + 1), H, rfl⟩, (sub_to [some 0, some 1] (by decide) rfl rfl (⟨⟨_, rfl, .one (.ptr rfl)⟩, ⟨⟨_, rfl, .one (.ptr rfl)⟩, ⟨⟨_, rfl, .one .lst⟩, ⟨⟨_, rfl, .one .v⟩, trivial⟩⟩⟩⟩) (⟨⟨rfl, .inl ⟨_, _, rfl, rfl, .box ⟨.lst, .v, .v, .lst, .lst, trivial⟩⟩⟩, ⟨⟨rfl, .inl ⟨_, _, rfl, rfl, .boxL ro_B⟩⟩, trivial⟩⟩))⟩
          · replace H := cf H c243
            refine T.exit ?_
            obtain rfl := si H
            exact ⟨_, rfl, (sub_to [some 0] (by decide) rfl rfl (⟨⟨_, rfl, .one (.ptr rfl)⟩, trivial⟩) (⟨⟨rfl, .inl ⟨_, _, rfl, rfl, .box ⟨.lst, .v, .v, .lst, .lst, trivial⟩⟩⟩, trivial⟩))⟩
        · intro v241 s hR hS
          subst hR
          have H := exg HO240
          refine T.sub hS ?_
          refine T.seq ?_
          refine T.region ?_
          obtain ⟨r267, h268, H⟩ := bs H
          refine RunT.ot0 (x := .v (.bool r267)) rfl rfl rfl rfl (.callp (law8_told_pc false k  r267 h268) rfl trivial rfl rfl rfl) ?_
          refine RunT.ot0 (x := .v (.bool r267)) rfl rfl rfl rfl (.moveX rfl) ?_
          refine RunT.cases (t := 113) (c := r267) rfl (fun g269 => ?_) (fun g269 => ?_)
          · replace H := ct H g269
            refine RunT.gt0 (x := .agg [.lst (List.map eSeat r1.Seats), .v (.int .i64 r1.Gap), .v (.int .i64 r1.Radius), .lst (List.map eI r1.Kills), .lst (List.map ePole r1.Poles)]) rfl rfl rfl (bo g269) rfl rfl (.loadP ty26 rfl rfl rfl) ?_
            obtain ⟨r270, h271, H⟩ := bs H
            refine RunT.gt0 (x := .v (.bool r270)) rfl rfl rfl (bo g269) rfl rfl (.callp (ref2_May_pc false k r1 r270 h271) rfl ⟨(.agg' ⟨.lst, .v, .v, .lst, .lst, trivial⟩), trivial⟩ rfl rfl rfl) ?_
            refine RunT.ot0 (x := .v (.bool r270)) rfl rfl rfl rfl (.pickT (bo g269) rfl) ?_
            refine RunT.ot0 (x := .v (.bool r270)) rfl rfl rfl rfl (.assignX rfl) ?_
            refine RunT.nil ?_
            obtain rfl := si H
            refine T.sub (sub_to (st' := ⟨[(2, .v (.bool r270))], [], 8, []⟩) [] (by decide) rfl rfl (⟨⟨_, rfl, .one .v⟩, trivial⟩) (trivial)) ?_
            refine T.ret ?_
            exact RetOk.same [.v (.bool r270)] ⟨rfl, trivial⟩ rfl rfl rfl
          · replace H := cf H g269
            refine RunT.xn rfl rfl rfl (bo g269) rfl rfl ?_
            refine RunT.xn rfl rfl rfl (bo g269) rfl rfl ?_
            refine RunT.ot0 (x := .v (.bool false)) rfl rfl rfl rfl (.pickF (bo g269) rfl) ?_
            refine RunT.ot0 (x := .v (.bool false)) rfl rfl rfl rfl (.assignX rfl) ?_
            refine RunT.nil ?_
            obtain rfl := si H
            refine T.sub (sub_to (st' := ⟨[(2, .v (.bool false))], [], 8, []⟩) [] (by decide) rfl rfl (⟨⟨_, rfl, .one .v⟩, trivial⟩) (trivial)) ?_
            refine T.ret ?_
            exact RetOk.same [.v (.bool false)] ⟨rfl, trivial⟩ rfl rfl rfl
end Go.Proofs.Ytlfpkjlaajfjnaa
