/- The Go functions come to just what their plain forms come to: one contract each. -/
import Derived.Test.YtlfpkjlaajfjnaaYPlaceKilled0
set_option linter.unusedVariables false
set_option linter.unusedSimpArgs false
set_option maxRecDepth 100000
namespace Go.Proofs.Ytlfpkjlaajfjnaa
open Go Go.Sh Go.Px
attribute [local irreducible] Go.Sh.T Go.Sh.RunT Go.Sh.RunD
set_option maxHeartbeats 4000000 in
theorem run_next_pc (al : Bool) (k : Nat) (a0 : Venue) (a1 : Int) (o : Bool) (H : run_next k a0 a1 = some o) : PC Try.prog al 99 [.agg [.lst (List.map eSeat a0.Seats), .v (.int .i64 a0.Gap), .v (.int .i64 a0.Radius), .lst (List.map eI a0.Kills), .lst (List.map ePole a0.Poles)], .v (.int .i64 a1)] (.v (.bool o)) := by
  unfold run_next at H
  refine PC.of_T Try.func99 rfl rfl (n := 50) rfl rfl (.inr rfl) ?_
  intro base B w0
  refine T.st (st' := ⟨[(0, .agg [.lst (List.map eSeat a0.Seats), .v (.int .i64 a0.Gap), .v (.int .i64 a0.Radius), .lst (List.map eI a0.Kills), .lst (List.map ePole a0.Poles)]), (1, .v (.int .i64 a1))], [], 0, []⟩) rfl ?_
  refine T.seq ?_
  refine T.region ?_
  refine RunT.ot1 (x := .ptr 0 0) (p0 := (0, some (.box [.lst (List.map eSeat a0.Seats), .v (.int .i64 a0.Gap), .v (.int .i64 a0.Radius), .lst (List.map eI a0.Kills), .lst (List.map ePole a0.Poles)]))) (n' := 8) rfl rfl rfl rfl (.boxX rfl rfl rfl) rfl ?_
  refine RunT.ot0 (x := .v (.bool false)) rfl rfl rfl rfl (.assignX rfl) ?_
  refine RunT.nil ?_
  refine T.seq ?_
  refine T.draw (wr := []) mixed rfl rfl ?_ rfl
  refine RunD.ot0 (x := .v (.int .i64 a1)) rfl rfl rfl rfl (.moveX rfl) rfl ?_
  refine RunD.ot0 (x := .v (.bool (decide (0 ≤ a1)))) rfl rfl rfl rfl (.bin rfl rfl (fun w => b_geq w) rfl) rfl ?_
  refine RunD.ot0 (x := .v (.bool (decide (0 ≤ a1)))) rfl rfl rfl rfl (.moveX rfl) rfl ?_
  refine RunD.cases (t := 7) (c := decide (0 ≤ a1)) rfl (fun g12 => ?_) (fun g12 => ?_)
  · replace H := ct H g12
    refine RunD.gt0 (x := .v (.int .i64 a1)) rfl rfl rfl (bo g12) rfl rfl (.moveX rfl) rfl ?_
    refine RunD.gt0 (x := .ptr 0 0) rfl rfl rfl (bo g12) rfl rfl (.fieldPX fl26_0 rfl rfl) rfl ?_
    refine RunD.gt0 (x := .lst (List.map eSeat a0.Seats)) rfl rfl rfl (bo g12) rfl rfl (.loadP ty22 rfl rfl rfl) rfl ?_
    refine RunD.gt0 (x := .v (.int .i64 (a0.Seats.length : Int))) rfl rfl rfl (bo g12) rfl rfl (.lenLm Try.underlying22 rfl rfl) rfl ?_
    refine RunD.gt0 (x := .v (.int .i64 (wr ((a0.Seats.length : Int) - 1)))) rfl rfl rfl (bo g12) rfl rfl (.bin rfl rfl (fun w => b_subw w) rfl) rfl ?_
    refine RunD.gt0 (x := .v (.bool (decide (a1 < (wr ((a0.Seats.length : Int) - 1)))))) rfl rfl rfl (bo g12) rfl rfl (.bin rfl rfl (fun w => b_lss w) rfl) rfl ?_
    refine RunD.ot0 (x := .v (.bool (decide (a1 < (wr ((a0.Seats.length : Int) - 1)))))) rfl rfl rfl rfl (.pickT (bo g12) rfl) rfl ?_
    refine RunD.ot0 (x := .v (.bool (decide (a1 < (wr ((a0.Seats.length : Int) - 1)))))) rfl rfl rfl rfl (.moveX rfl) rfl ?_
    refine RunD.cases (t := 15) (c := decide (a1 < (wr ((a0.Seats.length : Int) - 1)))) rfl (fun g13 => ?_) (fun g13 => ?_)
    · replace H := ct H g13
      refine RunD.gt0 (x := .ptr 0 0) rfl rfl rfl (bo g13) rfl rfl (.fieldPX fl26_0 rfl rfl) rfl ?_
      refine RunD.gt0 (x := .lst (List.map eSeat a0.Seats)) rfl rfl rfl (bo g13) rfl rfl (.loadP ty22 rfl rfl rfl) rfl ?_
      refine RunD.gt0 (x := .v (.int .i64 a1)) rfl rfl rfl (bo g13) rfl rfl (.moveX rfl) rfl ?_
      refine RunD.gt0 (x := .v (.int .i64 (wr (a1 + 1)))) rfl rfl rfl (bo g13) rfl rfl (.bin rfl rfl (fun w => b_addw w) rfl) rfl ?_
      obtain ⟨y14, h15, H⟩ := bs H
      refine RunD.gt0 (x := .rptr [.v (.int .i64 y14.Row), .v (.int .i64 y14.X), .v (.int .i64 y14.Y), .v (.int .i64 y14.Kind)]) rfl rfl rfl (bo g13) rfl rfl (.idxLX h15 enc_Seat sl22 rfl rfl rfl) rfl ?_
      refine RunD.gt0 (x := .rptr [.v (.int .i64 y14.Row), .v (.int .i64 y14.X), .v (.int .i64 y14.Y), .v (.int .i64 y14.Kind)]) rfl rfl rfl (bo g13) rfl rfl (.fieldRX fl28_0 rfl rfl) rfl ?_
      refine RunD.gt0 (x := .v (.int .i64 y14.Row)) rfl rfl rfl (bo g13) rfl rfl (.loadR ty3 rfl rfl) rfl ?_
      refine RunD.gt0 (x := .ptr 0 0) rfl rfl rfl (bo g13) rfl rfl (.fieldPX fl26_0 rfl rfl) rfl ?_
      refine RunD.gt0 (x := .lst (List.map eSeat a0.Seats)) rfl rfl rfl (bo g13) rfl rfl (.loadP ty22 rfl rfl rfl) rfl ?_
      refine RunD.gt0 (x := .v (.int .i64 a1)) rfl rfl rfl (bo g13) rfl rfl (.moveX rfl) rfl ?_
      obtain ⟨y16, h17, H⟩ := bs H
      refine RunD.gt0 (x := .rptr [.v (.int .i64 y16.Row), .v (.int .i64 y16.X), .v (.int .i64 y16.Y), .v (.int .i64 y16.Kind)]) rfl rfl rfl (bo g13) rfl rfl (.idxLX h17 enc_Seat sl22 rfl rfl rfl) rfl ?_
      refine RunD.gt0 (x := .rptr [.v (.int .i64 y16.Row), .v (.int .i64 y16.X), .v (.int .i64 y16.Y), .v (.int .i64 y16.Kind)]) rfl rfl rfl (bo g13) rfl rfl (.fieldRX fl28_0 rfl rfl) rfl ?_
      refine RunD.gt0 (x := .v (.int .i64 y16.Row)) rfl rfl rfl (bo g13) rfl rfl (.loadR ty3 rfl rfl) rfl ?_
      refine RunD.gt0 (x := .v (.bool (decide (y14.Row = y16.Row)))) rfl rfl rfl (bo g13) rfl rfl (.bin rfl rfl (fun w => b_eql w) rfl) rfl ?_
      refine RunD.ot0 (x := .v (.bool (decide (y14.Row = y16.Row)))) rfl rfl rfl rfl (.pickT (bo g13) rfl) rfl ?_
      refine RunD.ot0 (x := .v (.bool (decide (y14.Row = y16.Row)))) rfl rfl rfl rfl (.moveX rfl) rfl ?_
      refine RunD.cases (t := 31) (c := decide (y14.Row = y16.Row)) rfl (fun g18 => ?_) (fun g18 => ?_)
      · replace H := ct H g18
        refine RunD.gt0 (x := .ptr 0 0) rfl rfl rfl (bo g18) rfl rfl (.fieldPX fl26_0 rfl rfl) rfl ?_
        refine RunD.gt0 (x := .lst (List.map eSeat a0.Seats)) rfl rfl rfl (bo g18) rfl rfl (.loadP ty22 rfl rfl rfl) rfl ?_
        refine RunD.gt0 (x := .v (.int .i64 a1)) rfl rfl rfl (bo g18) rfl rfl (.moveX rfl) rfl ?_
        refine RunD.gt0 (x := .v (.int .i64 (wr (a1 + 1)))) rfl rfl rfl (bo g18) rfl rfl (.bin rfl rfl (fun w => b_addw w) rfl) rfl ?_
        obtain ⟨y19, h20, H⟩ := bs H
        refine RunD.gt0 (x := .rptr [.v (.int .i64 y19.Row), .v (.int .i64 y19.X), .v (.int .i64 y19.Y), .v (.int .i64 y19.Kind)]) rfl rfl rfl (bo g18) rfl rfl (.idxLX h20 enc_Seat sl22 rfl rfl rfl) rfl ?_
        refine RunD.gt0 (x := .rptr [.v (.int .i64 y19.X), .v (.int .i64 y19.Y), .v (.int .i64 y19.Kind)]) rfl rfl rfl (bo g18) rfl rfl (.fieldRX fl28_1 rfl rfl) rfl ?_
        refine RunD.gt0 (x := .v (.int .i64 y19.X)) rfl rfl rfl (bo g18) rfl rfl (.loadR ty3 rfl rfl) rfl ?_
        refine RunD.gt0 (x := .ptr 0 0) rfl rfl rfl (bo g18) rfl rfl (.fieldPX fl26_0 rfl rfl) rfl ?_
        refine RunD.gt0 (x := .lst (List.map eSeat a0.Seats)) rfl rfl rfl (bo g18) rfl rfl (.loadP ty22 rfl rfl rfl) rfl ?_
        refine RunD.gt0 (x := .v (.int .i64 a1)) rfl rfl rfl (bo g18) rfl rfl (.moveX rfl) rfl ?_
        obtain ⟨y21, h22, H⟩ := bs H
        refine RunD.gt0 (x := .rptr [.v (.int .i64 y21.Row), .v (.int .i64 y21.X), .v (.int .i64 y21.Y), .v (.int .i64 y21.Kind)]) rfl rfl rfl (bo g18) rfl rfl (.idxLX h22 enc_Seat sl22 rfl rfl rfl) rfl ?_
        refine RunD.gt0 (x := .rptr [.v (.int .i64 y21.X), .v (.int .i64 y21.Y), .v (.int .i64 y21.Kind)]) rfl rfl rfl (bo g18) rfl rfl (.fieldRX fl28_1 rfl rfl) rfl ?_
        refine RunD.gt0 (x := .v (.int .i64 y21.X)) rfl rfl rfl (bo g18) rfl rfl (.loadR ty3 rfl rfl) rfl ?_
        refine RunD.gt0 (x := .v (.int .i64 (wr (y19.X - y21.X)))) rfl rfl rfl (bo g18) rfl rfl (.bin rfl rfl (fun w => b_subw w) rfl) rfl ?_
        refine RunD.gt0 (x := .ptr 0 1) rfl rfl rfl (bo g18) rfl rfl (.fieldPX fl26_1 rfl rfl) rfl ?_
        refine RunD.gt0 (x := .v (.int .i64 a0.Gap)) rfl rfl rfl (bo g18) rfl rfl (.loadP ty3 rfl rfl rfl) rfl ?_
        refine RunD.gt0 (x := .v (.bool (decide ((wr (y19.X - y21.X)) ≤ a0.Gap)))) rfl rfl rfl (bo g18) rfl rfl (.bin rfl rfl (fun w => b_leq w) rfl) rfl ?_
        refine RunD.ot0 (x := .v (.bool (decide ((wr (y19.X - y21.X)) ≤ a0.Gap)))) rfl rfl rfl rfl (.pickT (bo g18) rfl) rfl ?_
        refine RunD.ot0 (x := .v (.bool (decide ((wr (y19.X - y21.X)) ≤ a0.Gap)))) rfl rfl rfl rfl (.assignX rfl) rfl ?_
        refine RunD.nil (by kernel_rfl) ⟨rfl, rfl, ?_⟩
        obtain rfl := si H
        refine T.sub (sub_to (st' := ⟨[(4, .v (.bool (decide ((wr (y19.X - y21.X)) ≤ a0.Gap))))], [], 8, []⟩) [] (by decide) rfl rfl (⟨⟨_, rfl, .one .v⟩, trivial⟩) (trivial)) ?_
        refine T.ret ?_
        exact RetOk.same [.v (.bool (decide ((wr (y19.X - y21.X)) ≤ a0.Gap)))] ⟨rfl, trivial⟩ rfl rfl rfl
      · replace H := cf H g18
        refine RunD.xn rfl rfl rfl (bo g18) rfl rfl ?_
        refine RunD.xn rfl rfl rfl (bo g18) rfl rfl ?_
        refine RunD.xn rfl rfl rfl (bo g18) rfl rfl ?_
        refine RunD.xn rfl rfl rfl (bo g18) rfl rfl ?_
        refine RunD.xn rfl rfl rfl (bo g18) rfl rfl ?_
        refine RunD.xn rfl rfl rfl (bo g18) rfl rfl ?_
        refine RunD.xn rfl rfl rfl (bo g18) rfl rfl ?_
        refine RunD.xn rfl rfl rfl (bo g18) rfl rfl ?_
        refine RunD.xn rfl rfl rfl (bo g18) rfl rfl ?_
        refine RunD.xn rfl rfl rfl (bo g18) rfl rfl ?_
        refine RunD.xn rfl rfl rfl (bo g18) rfl rfl ?_
        refine RunD.xn rfl rfl rfl (bo g18) rfl rfl ?_
        refine RunD.xn rfl rfl rfl (bo g18) rfl rfl ?_
        refine RunD.xn rfl rfl rfl (bo g18) rfl rfl ?_
        refine RunD.xn rfl rfl rfl (bo g18) rfl rfl ?_
        refine RunD.xn rfl rfl rfl (bo g18) rfl rfl ?_
        refine RunD.xn rfl rfl rfl (bo g18) rfl rfl ?_
        refine RunD.ot0 (x := .v (.bool false)) rfl rfl rfl rfl (.pickF (bo g18) rfl) rfl ?_
        refine RunD.ot0 (x := .v (.bool false)) rfl rfl rfl rfl (.assignX rfl) rfl ?_
        refine RunD.nil (by kernel_rfl) ⟨rfl, rfl, ?_⟩
        obtain rfl := si H
        refine T.sub (sub_to (st' := ⟨[(4, .v (.bool false))], [], 8, []⟩) [] (by decide) rfl rfl (⟨⟨_, rfl, .one .v⟩, trivial⟩) (trivial)) ?_
        refine T.ret ?_
        exact RetOk.same [.v (.bool false)] ⟨rfl, trivial⟩ rfl rfl rfl
    · replace H := cf H g13
      refine RunD.xn rfl rfl rfl (bo g13) rfl rfl ?_
      refine RunD.xn rfl rfl rfl (bo g13) rfl rfl ?_
      refine RunD.xn rfl rfl rfl (bo g13) rfl rfl ?_
      refine RunD.xn rfl rfl rfl (bo g13) rfl rfl ?_
      refine RunD.xn rfl rfl rfl (bo g13) rfl rfl ?_
      refine RunD.xn rfl rfl rfl (bo g13) rfl rfl ?_
      refine RunD.xn rfl rfl rfl (bo g13) rfl rfl ?_
      refine RunD.xn rfl rfl rfl (bo g13) rfl rfl ?_
      refine RunD.xn rfl rfl rfl (bo g13) rfl rfl ?_
      refine RunD.xn rfl rfl rfl (bo g13) rfl rfl ?_
      refine RunD.xn rfl rfl rfl (bo g13) rfl rfl ?_
      refine RunD.xn rfl rfl rfl (bo g13) rfl rfl ?_
      refine RunD.xn rfl rfl rfl (bo g13) rfl rfl ?_
      refine RunD.xn rfl rfl rfl (bo g13) rfl rfl ?_
      refine RunD.ot0 (x := .v (.bool false)) rfl rfl rfl rfl (.pickF (bo g13) rfl) rfl ?_
      refine RunD.ot0 (x := .v (.bool false)) rfl rfl rfl rfl (.moveX rfl) rfl ?_
      refine RunD.xn rfl rfl rfl rfl rfl rfl ?_
      refine RunD.xn rfl rfl rfl rfl rfl rfl ?_
      refine RunD.xn rfl rfl rfl rfl rfl rfl ?_
      refine RunD.xn rfl rfl rfl rfl rfl rfl ?_
      refine RunD.xn rfl rfl rfl rfl rfl rfl ?_
      refine RunD.xn rfl rfl rfl rfl rfl rfl ?_
      refine RunD.xn rfl rfl rfl rfl rfl rfl ?_
      refine RunD.xn rfl rfl rfl rfl rfl rfl ?_
      refine RunD.xn rfl rfl rfl rfl rfl rfl ?_
      refine RunD.xn rfl rfl rfl rfl rfl rfl ?_
      refine RunD.xn rfl rfl rfl rfl rfl rfl ?_
      refine RunD.xn rfl rfl rfl rfl rfl rfl ?_
      refine RunD.xn rfl rfl rfl rfl rfl rfl ?_
      refine RunD.xn rfl rfl rfl rfl rfl rfl ?_
      refine RunD.xn rfl rfl rfl rfl rfl rfl ?_
      refine RunD.xn rfl rfl rfl rfl rfl rfl ?_
      refine RunD.xn rfl rfl rfl rfl rfl rfl ?_
      refine RunD.ot0 (x := .v (.bool false)) rfl rfl rfl rfl (.pickF rfl rfl) rfl ?_
      refine RunD.ot0 (x := .v (.bool false)) rfl rfl rfl rfl (.assignX rfl) rfl ?_
      refine RunD.nil (by kernel_rfl) ⟨rfl, rfl, ?_⟩
      obtain rfl := si H
      refine T.sub (sub_to (st' := ⟨[(4, .v (.bool false))], [], 8, []⟩) [] (by decide) rfl rfl (⟨⟨_, rfl, .one .v⟩, trivial⟩) (trivial)) ?_
      refine T.ret ?_
      exact RetOk.same [.v (.bool false)] ⟨rfl, trivial⟩ rfl rfl rfl
  · replace H := cf H g12
    refine RunD.xn rfl rfl rfl (bo g12) rfl rfl ?_
    refine RunD.xn rfl rfl rfl (bo g12) rfl rfl ?_
    refine RunD.xn rfl rfl rfl (bo g12) rfl rfl ?_
    refine RunD.xn rfl rfl rfl (bo g12) rfl rfl ?_
    refine RunD.xn rfl rfl rfl (bo g12) rfl rfl ?_
    refine RunD.xn rfl rfl rfl (bo g12) rfl rfl ?_
    refine RunD.ot0 (x := .v (.bool false)) rfl rfl rfl rfl (.pickF (bo g12) rfl) rfl ?_
    refine RunD.ot0 (x := .v (.bool false)) rfl rfl rfl rfl (.moveX rfl) rfl ?_
    refine RunD.xn rfl rfl rfl rfl rfl rfl ?_
    refine RunD.xn rfl rfl rfl rfl rfl rfl ?_
    refine RunD.xn rfl rfl rfl rfl rfl rfl ?_
    refine RunD.xn rfl rfl rfl rfl rfl rfl ?_
    refine RunD.xn rfl rfl rfl rfl rfl rfl ?_
    refine RunD.xn rfl rfl rfl rfl rfl rfl ?_
    refine RunD.xn rfl rfl rfl rfl rfl rfl ?_
    refine RunD.xn rfl rfl rfl rfl rfl rfl ?_
    refine RunD.xn rfl rfl rfl rfl rfl rfl ?_
    refine RunD.xn rfl rfl rfl rfl rfl rfl ?_
    refine RunD.xn rfl rfl rfl rfl rfl rfl ?_
    refine RunD.xn rfl rfl rfl rfl rfl rfl ?_
    refine RunD.xn rfl rfl rfl rfl rfl rfl ?_
    refine RunD.xn rfl rfl rfl rfl rfl rfl ?_
    refine RunD.ot0 (x := .v (.bool false)) rfl rfl rfl rfl (.pickF rfl rfl) rfl ?_
    refine RunD.ot0 (x := .v (.bool false)) rfl rfl rfl rfl (.moveX rfl) rfl ?_
    refine RunD.xn rfl rfl rfl rfl rfl rfl ?_
    refine RunD.xn rfl rfl rfl rfl rfl rfl ?_
    refine RunD.xn rfl rfl rfl rfl rfl rfl ?_
    refine RunD.xn rfl rfl rfl rfl rfl rfl ?_
    refine RunD.xn rfl rfl rfl rfl rfl rfl ?_
    refine RunD.xn rfl rfl rfl rfl rfl rfl ?_
    refine RunD.xn rfl rfl rfl rfl rfl rfl ?_
    refine RunD.xn rfl rfl rfl rfl rfl rfl ?_
    refine RunD.xn rfl rfl rfl rfl rfl rfl ?_
    refine RunD.xn rfl rfl rfl rfl rfl rfl ?_
    refine RunD.xn rfl rfl rfl rfl rfl rfl ?_
    refine RunD.xn rfl rfl rfl rfl rfl rfl ?_
    refine RunD.xn rfl rfl rfl rfl rfl rfl ?_
    refine RunD.xn rfl rfl rfl rfl rfl rfl ?_
    refine RunD.xn rfl rfl rfl rfl rfl rfl ?_
    refine RunD.xn rfl rfl rfl rfl rfl rfl ?_
    refine RunD.xn rfl rfl rfl rfl rfl rfl ?_
    refine RunD.ot0 (x := .v (.bool false)) rfl rfl rfl rfl (.pickF rfl rfl) rfl ?_
    refine RunD.ot0 (x := .v (.bool false)) rfl rfl rfl rfl (.assignX rfl) rfl ?_
    refine RunD.nil (by kernel_rfl) ⟨rfl, rfl, ?_⟩
    obtain rfl := si H
    refine T.sub (sub_to (st' := ⟨[(4, .v (.bool false))], [], 8, []⟩) [] (by decide) rfl rfl (⟨⟨_, rfl, .one .v⟩, trivial⟩) (trivial)) ?_
    refine T.ret ?_
    exact RetOk.same [.v (.bool false)] ⟨rfl, trivial⟩ rfl rfl rfl
set_option maxHeartbeats 4000000 in
theorem run_free_pc (al : Bool) (k : Nat) (a0 : Venue) (a1 : (List Bool)) (a2 : Int) (o : Bool) (H : run_free k a0 a1 a2 = some o) : PC Try.prog al 136 [.agg [.lst (List.map eSeat a0.Seats), .v (.int .i64 a0.Gap), .v (.int .i64 a0.Radius), .lst (List.map eI a0.Kills), .lst (List.map ePole a0.Poles)], .lst (List.map eB a1), .v (.int .i64 a2)] (.v (.bool o)) := by
  unfold run_free at H
  refine PC.of_T Try.func136 rfl rfl (n := 25) rfl rfl (.inr rfl) ?_
  intro base B w0
  refine T.st (st' := ⟨[(0, .agg [.lst (List.map eSeat a0.Seats), .v (.int .i64 a0.Gap), .v (.int .i64 a0.Radius), .lst (List.map eI a0.Kills), .lst (List.map ePole a0.Poles)]), (1, .lst (List.map eB a1)), (2, .v (.int .i64 a2))], [], 0, []⟩) rfl ?_
  refine T.seq ?_
  refine T.region ?_
  refine RunT.ot1 (x := .ptr 0 0) (p0 := (0, some (.box [.lst (List.map eSeat a0.Seats), .v (.int .i64 a0.Gap), .v (.int .i64 a0.Radius), .lst (List.map eI a0.Kills), .lst (List.map ePole a0.Poles)]))) (n' := 8) rfl rfl rfl rfl (.boxX rfl rfl rfl) rfl ?_
  refine RunT.ot0 (x := .v (.bool false)) rfl rfl rfl rfl (.assignX rfl) ?_
  refine RunT.nil ?_
  refine T.seq ?_
  refine T.block ?_
  refine T.seq ?_
  refine T.block ?_
  refine T.block ?_
  refine T.block ?_
  refine T.seq ?_
  refine T.seq ?_
  refine T.seq ?_
  refine T.region ?_
  refine RunT.ot0 (x := .v (.int .i64 a2)) rfl rfl rfl rfl (.moveX rfl) ?_
  refine RunT.ot0 (x := .v (.bool (decide (a2 < 0)))) rfl rfl rfl rfl (.bin rfl rfl (fun w => b_lss w) rfl) ?_
  refine RunT.ot0 (x := .v (.bool (decide (a2 < 0)))) rfl rfl rfl rfl (.assignX rfl) ?_
  refine RunT.nil ?_
  refine T.cond2 (t := decide (a2 < 0)) rfl (fun c1 => ?_) (fun c1 => ?_)
  · replace H := ct H c1
    refine T.exit ?_
    refine T.seq ?_
    refine T.seq ?_
    refine T.region ?_
    refine RunT.ot0 (x := .v (.bool false)) rfl rfl rfl rfl (.assignX rfl) ?_
    refine RunT.nil ?_
    obtain rfl := si H
    refine T.sub (sub_to (st' := ⟨[(6, .v (.bool false))], [], 8, []⟩) [] (by decide) rfl rfl (⟨⟨_, rfl, .one .v⟩, trivial⟩) (trivial)) ?_
    refine T.ret ?_
    exact RetOk.same [.v (.bool false)] ⟨rfl, trivial⟩ rfl rfl rfl
  · replace H := cf H c1
    refine T.skip ?_
    refine T.seq ?_
    refine T.seq ?_
    refine T.region ?_
    refine RunT.ot0 (x := .v (.int .i64 a2)) rfl rfl rfl rfl (.moveX rfl) ?_
    refine RunT.ot0 (x := .ptr 0 0) rfl rfl rfl rfl (.fieldPX fl26_0 rfl rfl) ?_
    refine RunT.ot0 (x := .lst (List.map eSeat a0.Seats)) rfl rfl rfl rfl (.loadP ty22 rfl rfl rfl) ?_
    refine RunT.ot0 (x := .v (.int .i64 (a0.Seats.length : Int))) rfl rfl rfl rfl (.lenLm Try.underlying22 rfl rfl) ?_
    refine RunT.ot0 (x := .v (.bool (decide ((a0.Seats.length : Int) ≤ a2)))) rfl rfl rfl rfl (.bin rfl rfl (fun w => b_geq w) rfl) ?_
    refine RunT.ot0 (x := .v (.bool (decide ((a0.Seats.length : Int) ≤ a2)))) rfl rfl rfl rfl (.assignX rfl) ?_
    refine RunT.nil ?_
    refine T.cond2 (t := decide ((a0.Seats.length : Int) ≤ a2)) rfl (fun c2 => ?_) (fun c2 => ?_)
    · replace H := ct H c2
      refine T.exit ?_
      refine T.seq ?_
      refine T.seq ?_
      refine T.region ?_
      refine RunT.ot0 (x := .v (.bool false)) rfl rfl rfl rfl (.assignX rfl) ?_
      refine RunT.nil ?_
      obtain rfl := si H
      refine T.sub (sub_to (st' := ⟨[(6, .v (.bool false))], [], 8, []⟩) [] (by decide) rfl rfl (⟨⟨_, rfl, .one .v⟩, trivial⟩) (trivial)) ?_
      refine T.ret ?_
      exact RetOk.same [.v (.bool false)] ⟨rfl, trivial⟩ rfl rfl rfl
    · replace H := cf H c2
      refine T.skip ?_
      refine T.seq ?_
      refine T.region ?_
      refine RunT.ot0 (x := .v (.int .i64 a2)) rfl rfl rfl rfl (.moveX rfl) ?_
      refine RunT.ot0 (x := .lst (List.map eB a1)) rfl rfl rfl rfl (.moveX rfl) ?_
      refine RunT.ot0 (x := .v (.int .i64 (a1.length : Int))) rfl rfl rfl rfl (.lenLm Try.underlying43 rfl rfl) ?_
      refine RunT.ot0 (x := .v (.bool (decide ((a1.length : Int) ≤ a2)))) rfl rfl rfl rfl (.bin rfl rfl (fun w => b_geq w) rfl) ?_
      refine RunT.ot0 (x := .v (.bool (decide ((a1.length : Int) ≤ a2)))) rfl rfl rfl rfl (.assignX rfl) ?_
      refine RunT.nil ?_
      refine T.cond2 (t := decide ((a1.length : Int) ≤ a2)) rfl (fun c3 => ?_) (fun c3 => ?_)
      · replace H := ct H c3
        refine T.exit ?_
        refine T.seq ?_
        refine T.seq ?_
        refine T.sub (sub_pick [] [] (st' := ⟨[], [], 8, []⟩) rfl rfl rfl rfl rfl) ?_
        refine T.region ?_
        refine RunT.ot0 (x := .v (.bool false)) rfl rfl rfl rfl (.assignX rfl) ?_
        refine RunT.nil ?_
        obtain rfl := si H
        refine T.sub (sub_to (st' := ⟨[(6, .v (.bool false))], [], 8, []⟩) [] (by decide) rfl rfl (⟨⟨_, rfl, .one .v⟩, trivial⟩) (trivial)) ?_
        refine T.ret ?_
        exact RetOk.same [.v (.bool false)] ⟨rfl, trivial⟩ rfl rfl rfl
      · replace H := cf H c3
        refine T.skip ?_
        refine T.exit ?_
        refine T.seq ?_
        refine T.region ?_
        refine RunT.ot0 (x := .lst (List.map eB a1)) rfl rfl rfl rfl (.moveX rfl) ?_
        refine RunT.ot0 (x := .v (.int .i64 a2)) rfl rfl rfl rfl (.moveX rfl) ?_
        obtain ⟨y4, h5, H⟩ := bs H
        refine RunT.ot0 (x := .rptr [.v (.bool y4)]) rfl rfl rfl rfl (.idxLX h5 enc_B sl43 rfl rfl rfl) ?_
        refine RunT.ot0 (x := .v (.bool y4)) rfl rfl rfl rfl (.loadR ty4 rfl rfl) ?_
        refine RunT.ot0 (x := .v (.bool y4)) rfl rfl rfl rfl (.assignX rfl) ?_
        refine RunT.nil ?_
        obtain rfl := si H
        refine T.sub (sub_to (st' := ⟨[(6, .v (.bool y4))], [], 8, []⟩) [] (by decide) rfl rfl (⟨⟨_, rfl, .one .v⟩, trivial⟩) (trivial)) ?_
        refine T.ret ?_
        exact RetOk.same [.v (.bool y4)] ⟨rfl, trivial⟩ rfl rfl rfl
set_option maxHeartbeats 4000000 in
theorem run_long_pc (al : Bool) (k : Nat) (a0 : Venue) (a1 : (List Bool)) (a2 : Int) (a3 : Int) (o : Int) (H : run_long k a0 a1 a2 a3 = some o) : PC Try.prog al 101 [.agg [.lst (List.map eSeat a0.Seats), .v (.int .i64 a0.Gap), .v (.int .i64 a0.Radius), .lst (List.map eI a0.Kills), .lst (List.map ePole a0.Poles)], .lst (List.map eB a1), .v (.int .i64 a2), .v (.int .i64 a3)] (.v (.int .i64 o)) := by
  unfold run_long at H
  refine PC.of_T Try.func101 rfl rfl (n := 36) rfl rfl (.inr rfl) ?_
  intro base B w0
  refine T.st (st' := ⟨[(0, .agg [.lst (List.map eSeat a0.Seats), .v (.int .i64 a0.Gap), .v (.int .i64 a0.Radius), .lst (List.map eI a0.Kills), .lst (List.map ePole a0.Poles)]), (1, .lst (List.map eB a1)), (2, .v (.int .i64 a2)), (3, .v (.int .i64 a3))], [], 0, []⟩) rfl ?_
  refine T.seq ?_
  refine T.region ?_
  refine RunT.ot1 (x := .ptr 0 0) (p0 := (0, some (.box [.lst (List.map eSeat a0.Seats), .v (.int .i64 a0.Gap), .v (.int .i64 a0.Radius), .lst (List.map eI a0.Kills), .lst (List.map ePole a0.Poles)]))) (n' := 8) rfl rfl rfl rfl (.boxX rfl rfl rfl) rfl ?_
  refine RunT.ot0 (x := .v (.int .i64 0)) rfl rfl rfl rfl (.assignX rfl) ?_
  refine RunT.nil ?_
  refine T.seq ?_
  refine T.region ?_
  refine RunT.ot0 (x := .v (.int .i64 0)) rfl rfl rfl rfl (.assignX rfl) ?_
  refine RunT.nil ?_
  obtain ⟨o18, E19, HO20⟩ := bs H
  refine T.cut (⟨[(9, .v (.int .i64 o18))], [], 8, []⟩) ?_ ?_
  · have H := E19
    refine T.block ?_
    refine T.loopS (fun n s => ∃ (v21 : Int), run_long_l0 k a0 a1 a2 a3 n v21 = some o18 ∧ s = ⟨[(1, .lst (List.map eB a1)), (2, .v (.int .i64 a2)), (3, .v (.int .i64 a3)), (4, .ptr 0 0), (9, .v (.int .i64 v21))], [(0, some (.box [.lst (List.map eSeat a0.Seats), .v (.int .i64 a0.Gap), .v (.int .i64 a0.Radius), .lst (List.map eI a0.Kills), .lst (List.map ePole a0.Poles)]))], 8, []⟩) k ⟨_, ⟨0, H, rfl⟩, sub_to [some 0] (by decide) rfl rfl (⟨⟨_, rfl, .one .lst⟩, ⟨⟨_, rfl, .one .v⟩, ⟨⟨_, rfl, .one .v⟩, ⟨⟨_, rfl, .one (.ptr rfl)⟩, ⟨⟨_, rfl, .one .v⟩, trivial⟩⟩⟩⟩⟩) (⟨⟨rfl, .inl ⟨_, _, rfl, rfl, .box ⟨.lst, .v, .v, .lst, .lst, trivial⟩⟩⟩, trivial⟩)⟩ ?_
    rintro n s ⟨v21, H, rfl⟩
    rcases n with _ | n
    · cases (show none = some _ from H)
    rw [run_long_l0] at H
    refine T.seq ?_
    refine T.seq ?_
    refine T.sub (sub_pick [1, 2, 3, 4, 9] [0] (st' := ⟨[(1, .lst (List.map eB a1)), (2, .v (.int .i64 a2)), (3, .v (.int .i64 a3)), (4, .ptr 0 0), (9, .v (.int .i64 v21))], [(0, some (.box [.lst (List.map eSeat a0.Seats), .v (.int .i64 a0.Gap), .v (.int .i64 a0.Radius), .lst (List.map eI a0.Kills), .lst (List.map ePole a0.Poles)]))], 8, []⟩) rfl rfl rfl rfl rfl) ?_
    refine T.region ?_
    refine RunT.ot0 (x := .v (.int .i64 v21)) rfl rfl rfl rfl (.moveX rfl) ?_
    refine RunT.ot0 (x := .v (.int .i64 a3)) rfl rfl rfl rfl (.moveX rfl) ?_
    refine RunT.ot0 (x := .v (.bool (decide (v21 < a3)))) rfl rfl rfl rfl (.bin rfl rfl (fun w => b_lss w) rfl) ?_
    refine RunT.ot0 (x := .v (.bool (decide (v21 < a3)))) rfl rfl rfl rfl (.moveX rfl) ?_
    refine RunT.cases (t := 13) (c := decide (v21 < a3)) rfl (fun g22 => ?_) (fun g22 => ?_)
    · replace H := ct H g22
      refine RunT.gt0 (x := .agg [.lst (List.map eSeat a0.Seats), .v (.int .i64 a0.Gap), .v (.int .i64 a0.Radius), .lst (List.map eI a0.Kills), .lst (List.map ePole a0.Poles)]) rfl rfl rfl (bo g22) rfl rfl (.loadP ty26 rfl rfl rfl) ?_
      refine RunT.gt0 (x := .lst (List.map eB a1)) rfl rfl rfl (bo g22) rfl rfl (.moveX rfl) ?_
      refine RunT.gt0 (x := .v (.int .i64 a2)) rfl rfl rfl (bo g22) rfl rfl (.moveX rfl) ?_
      refine RunT.gt0 (x := .v (.int .i64 v21)) rfl rfl rfl (bo g22) rfl rfl (.moveX rfl) ?_
      refine RunT.gt0 (x := .v (.int .i64 (wr (a2 + v21)))) rfl rfl rfl (bo g22) rfl rfl (.bin rfl rfl (fun w => b_addw w) rfl) ?_
      obtain ⟨r23, h24, H⟩ := bs H
      refine RunT.gt0 (x := .v (.bool r23)) rfl rfl rfl (bo g22) rfl rfl (.callp (run_free_pc false k a0 a1 (wr (a2 + v21)) r23 h24) rfl ⟨(.agg' ⟨.lst, .v, .v, .lst, .lst, trivial⟩), (.one .lst), (.one .v), trivial⟩ rfl rfl rfl) ?_
      refine RunT.ot0 (x := .v (.bool r23)) rfl rfl rfl rfl (.pickT (bo g22) rfl) ?_
      refine RunT.ot0 (x := .v (.bool r23)) rfl rfl rfl rfl (.moveX rfl) ?_
      refine RunT.cases (t := 21) (c := r23) rfl (fun g25 => ?_) (fun g25 => ?_)
      · replace H := ct H g25
        refine RunT.gt0 (x := .v (.int .i64 v21)) rfl rfl rfl (bo g25) rfl rfl (.moveX rfl) ?_
        refine RunT.gt0 (x := .v (.bool (decide (v21 = 0)))) rfl rfl rfl (bo g25) rfl rfl (.bin rfl rfl (fun w => b_eql w) rfl) ?_
        refine RunT.gt0 (x := .v (.bool (decide (v21 = 0)))) rfl rfl rfl (bo g25) rfl rfl (.moveX rfl) ?_
        refine RunT.cases (t := 24) (c := decide (v21 = 0)) rfl (fun g26 => ?_) (fun g26 => ?_)
        · replace H := ct H g26
          refine RunT.xn rfl rfl rfl (bo g26) rfl rfl ?_
          refine RunT.xn rfl rfl rfl (bo g26) rfl rfl ?_
          refine RunT.xn rfl rfl rfl (bo g26) rfl rfl ?_
          refine RunT.xn rfl rfl rfl (bo g26) rfl rfl ?_
          refine RunT.xn rfl rfl rfl (bo g26) rfl rfl ?_
          refine RunT.xn rfl rfl rfl (bo g26) rfl rfl ?_
          refine RunT.gt0 (x := .v (.bool true)) rfl rfl rfl (bo g25) rfl rfl (.pickT (bo g26) rfl) ?_
          refine RunT.ot0 (x := .v (.bool true)) rfl rfl rfl rfl (.pickT (bo g25) rfl) ?_
          refine RunT.nil ?_
          refine T.condT rfl ?_
          refine T.skip ?_
          refine T.block ?_
          refine T.sub (sub_pick [1, 2, 3, 4, 9] [0] (st' := ⟨[(1, .lst (List.map eB a1)), (2, .v (.int .i64 a2)), (3, .v (.int .i64 a3)), (4, .ptr 0 0), (9, .v (.int .i64 v21))], [(0, some (.box [.lst (List.map eSeat a0.Seats), .v (.int .i64 a0.Gap), .v (.int .i64 a0.Radius), .lst (List.map eI a0.Kills), .lst (List.map ePole a0.Poles)]))], 8, []⟩) rfl rfl rfl rfl rfl) ?_
          refine T.region ?_
          refine RunT.ot0 (x := .v (.int .i64 v21)) rfl rfl rfl rfl (.moveX rfl) ?_
          refine RunT.ot0 (x := .v (.int .i64 (wr (v21 + 1)))) rfl rfl rfl rfl (.bin rfl rfl (fun w => b_addw w) rfl) ?_
          refine RunT.ot0 (x := .v (.int .i64 (wr (v21 + 1)))) rfl rfl rfl rfl (.assignX rfl) ?_
          refine RunT.nil ?_
          exact ⟨n, Nat.lt_succ_self n, _, ⟨wr (v21 + 1), H, rfl⟩, (sub_to [some 0] (by decide) rfl rfl (⟨⟨_, rfl, .one .lst⟩, ⟨⟨_, rfl, .one .v⟩, ⟨⟨_, rfl, .one .v⟩, ⟨⟨_, rfl, .one (.ptr rfl)⟩, ⟨⟨_, rfl, .one .v⟩, trivial⟩⟩⟩⟩⟩) (⟨⟨rfl, .inl ⟨_, _, rfl, rfl, .box ⟨.lst, .v, .v, .lst, .lst, trivial⟩⟩⟩, trivial⟩))⟩
        · replace H := cf H g26
          refine RunT.gt0 (x := .agg [.lst (List.map eSeat a0.Seats), .v (.int .i64 a0.Gap), .v (.int .i64 a0.Radius), .lst (List.map eI a0.Kills), .lst (List.map ePole a0.Poles)]) rfl rfl rfl (bo g26) rfl rfl (.loadP ty26 rfl rfl rfl) ?_
          refine RunT.gt0 (x := .v (.int .i64 a2)) rfl rfl rfl (bo g26) rfl rfl (.moveX rfl) ?_
          refine RunT.gt0 (x := .v (.int .i64 v21)) rfl rfl rfl (bo g26) rfl rfl (.moveX rfl) ?_
          refine RunT.gt0 (x := .v (.int .i64 (wr (a2 + v21)))) rfl rfl rfl (bo g26) rfl rfl (.bin rfl rfl (fun w => b_addw w) rfl) ?_
          refine RunT.gt0 (x := .v (.int .i64 (wr ((wr (a2 + v21)) - 1)))) rfl rfl rfl (bo g26) rfl rfl (.bin rfl rfl (fun w => b_subw w) rfl) ?_
          obtain ⟨r27, h28, H⟩ := bs H
          refine RunT.gt0 (x := .v (.bool r27)) rfl rfl rfl (bo g26) rfl rfl (.callp (run_next_pc false k a0 (wr ((wr (a2 + v21)) - 1)) r27 h28) rfl ⟨(.agg' ⟨.lst, .v, .v, .lst, .lst, trivial⟩), (.one .v), trivial⟩ rfl rfl rfl) ?_
          refine RunT.gt0 (x := .v (.bool r27)) rfl rfl rfl (bo g25) rfl rfl (.pickF (bo g26) rfl) ?_
          refine RunT.ot0 (x := .v (.bool r27)) rfl rfl rfl rfl (.pickT (bo g25) rfl) ?_
          refine RunT.nil ?_
          refine T.cond2 (t := r27) rfl (fun c29 => ?_) (fun c29 => ?_)
          · replace H := ct H c29
            refine T.skip ?_
            refine T.block ?_
            refine T.region ?_
            refine RunT.ot0 (x := .v (.int .i64 v21)) rfl rfl rfl rfl (.moveX rfl) ?_
            refine RunT.ot0 (x := .v (.int .i64 (wr (v21 + 1)))) rfl rfl rfl rfl (.bin rfl rfl (fun w => b_addw w) rfl) ?_
            refine RunT.ot0 (x := .v (.int .i64 (wr (v21 + 1)))) rfl rfl rfl rfl (.assignX rfl) ?_
            refine RunT.nil ?_
            exact ⟨n, Nat.lt_succ_self n, _, ⟨wr (v21 + 1), H, rfl⟩, (sub_to [some 0] (by decide) rfl rfl (⟨⟨_, rfl, .one .lst⟩, ⟨⟨_, rfl, .one .v⟩, ⟨⟨_, rfl, .one .v⟩, ⟨⟨_, rfl, .one (.ptr rfl)⟩, ⟨⟨_, rfl, .one .v⟩, trivial⟩⟩⟩⟩⟩) (⟨⟨rfl, .inl ⟨_, _, rfl, rfl, .box ⟨.lst, .v, .v, .lst, .lst, trivial⟩⟩⟩, trivial⟩))⟩
          · replace H := cf H c29
            refine T.exit ?_
            obtain rfl := si H
            exact (sub_to [] (by decide) rfl rfl (⟨⟨_, rfl, .one .v⟩, trivial⟩) (trivial))
      · replace H := cf H g25
        refine RunT.xn rfl rfl rfl (bo g25) rfl rfl ?_
        refine RunT.xn rfl rfl rfl (bo g25) rfl rfl ?_
        refine RunT.xn rfl rfl rfl (bo g25) rfl rfl ?_
        refine RunT.xu rfl rfl rfl rfl rfl rfl ?_
        refine RunT.xu rfl rfl rfl rfl rfl rfl ?_
        refine RunT.xu rfl rfl rfl rfl rfl rfl ?_
        refine RunT.xu rfl rfl rfl rfl rfl rfl ?_
        refine RunT.xu rfl rfl rfl rfl rfl rfl ?_
        refine RunT.xu rfl rfl rfl rfl rfl rfl ?_
        refine RunT.xn rfl rfl rfl (bo g25) rfl rfl ?_
        refine RunT.ot0 (x := .v (.bool false)) rfl rfl rfl rfl (.pickF (bo g25) rfl) ?_
        refine RunT.nil ?_
        refine T.condF rfl ?_
        refine T.exit ?_
        obtain rfl := si H
        exact (sub_to [] (by decide) rfl rfl (⟨⟨_, rfl, .one .v⟩, trivial⟩) (trivial))
    · replace H := cf H g22
      refine RunT.xn rfl rfl rfl (bo g22) rfl rfl ?_
      refine RunT.xn rfl rfl rfl (bo g22) rfl rfl ?_
      refine RunT.xn rfl rfl rfl (bo g22) rfl rfl ?_
      refine RunT.xn rfl rfl rfl (bo g22) rfl rfl ?_
      refine RunT.xn rfl rfl rfl (bo g22) rfl rfl ?_
      refine RunT.xn rfl rfl rfl (bo g22) rfl rfl ?_
      refine RunT.ot0 (x := .v (.bool false)) rfl rfl rfl rfl (.pickF (bo g22) rfl) ?_
      refine RunT.ot0 (x := .v (.bool false)) rfl rfl rfl rfl (.moveX rfl) ?_
      refine RunT.xn rfl rfl rfl rfl rfl rfl ?_
      refine RunT.xn rfl rfl rfl rfl rfl rfl ?_
      refine RunT.xn rfl rfl rfl rfl rfl rfl ?_
      refine RunT.xu rfl rfl rfl rfl rfl rfl ?_
      refine RunT.xu rfl rfl rfl rfl rfl rfl ?_
      refine RunT.xu rfl rfl rfl rfl rfl rfl ?_
      refine RunT.xu rfl rfl rfl rfl rfl rfl ?_
      refine RunT.xu rfl rfl rfl rfl rfl rfl ?_
      refine RunT.xu rfl rfl rfl rfl rfl rfl ?_
      refine RunT.xn rfl rfl rfl rfl rfl rfl ?_
      refine RunT.ot0 (x := .v (.bool false)) rfl rfl rfl rfl (.pickF rfl rfl) ?_
      refine RunT.nil ?_
      refine T.condF rfl ?_
      refine T.exit ?_
      obtain rfl := si H
      exact (sub_to [] (by decide) rfl rfl (⟨⟨_, rfl, .one .v⟩, trivial⟩) (trivial))
  · have H := HO20
    refine T.seq ?_
    refine T.sub (sub_pick [9] [] (st' := ⟨[(9, .v (.int .i64 o18))], [], 8, []⟩) rfl rfl rfl rfl rfl) ?_
    refine T.region ?_
    refine RunT.ot0 (x := .v (.int .i64 o18)) rfl rfl rfl rfl (.moveX rfl) ?_
    refine RunT.ot0 (x := .v (.int .i64 o18)) rfl rfl rfl rfl (.assignX rfl) ?_
    refine RunT.nil ?_
    obtain rfl := si H
    refine T.sub (sub_to (st' := ⟨[(8, .v (.int .i64 o18))], [], 8, []⟩) [] (by decide) rfl rfl (⟨⟨_, rfl, .one .v⟩, trivial⟩) (trivial)) ?_
    refine T.ret ?_
    exact RetOk.same [.v (.int .i64 o18)] ⟨rfl, trivial⟩ rfl rfl rfl
set_option maxHeartbeats 4000000 in
theorem run_piece_pc (al : Bool) (k : Nat) (a0 : Int) (a1 : Int) (o : (List Int)) (H : run_piece k a0 a1 = some o) : PC Try.prog al 103 [.v (.int .i64 a0), .v (.int .i64 a1)] (.frs 1 (List.map eI o)) := by
  unfold run_piece at H
  refine PC.of_T Try.func103 rfl rfl (n := 19) rfl rfl (.inr (flat1_frs (sz := 1) fl_I)) ?_
  intro base B w0
  refine T.st (st' := ⟨[(0, .v (.int .i64 a0)), (1, .v (.int .i64 a1))], [], 0, []⟩) rfl ?_
  refine T.seq ?_
  refine T.region ?_
  refine RunT.ot0 (x := .v (.slice none 0 0)) rfl rfl rfl rfl (.assignX rfl) ?_
  refine RunT.nil ?_
  refine T.seq ?_
  refine T.region ?_
  refine RunT.ot0 (x := .v (.slice none 0 0)) rfl rfl rfl rfl (.assignX rfl) ?_
  refine RunT.nil ?_
  refine T.seq ?_
  refine T.seq ?_
  refine T.region ?_
  refine RunT.ot0 (x := .v (.int .i64 a1)) rfl rfl rfl rfl (.moveX rfl) ?_
  refine RunT.ot0 (x := .v (.int .i64 0)) rfl rfl rfl rfl (.moveX rfl) ?_
  refine RunT.nil ?_
  obtain ⟨o7, E8, HO9⟩ := bs H
  refine T.cutE (⟨[(5, .own 0 0 o7.length)], [(0, some (.arr false 1 (List.map eI o7)))], 8, []⟩) ?_ ?_
  · have H := E8
    refine T.block ?_
    refine T.loopS (fun n s => ∃ (v10 : (List Int)) (v11 : Int), run_piece_l0 k a0 a1 n v10 v11 = some o7 ∧ s = ⟨[(0, .v (.int .i64 a0)), (5, .own 0 0 v10.length), (7, .v (.int .i64 a1)), (8, .v (.int .i64 v11))], [(0, some (.arr false 1 (List.map eI v10)))], 8, []⟩) k ⟨_, ⟨[], 0, H, rfl⟩, sub_to [none] (by decide) rfl rfl (⟨⟨_, rfl, .one .v⟩, ⟨⟨_, rfl, .one .nilO⟩, ⟨⟨_, rfl, .one .v⟩, ⟨⟨_, rfl, .one .v⟩, trivial⟩⟩⟩⟩) (⟨⟨rfl, .inr ⟨rfl, false, _, rfl, (by decide)⟩⟩, trivial⟩)⟩ ?_
    rintro n s ⟨v10, v11, H, rfl⟩
    rcases n with _ | n
    · cases (show none = some _ from H)
    rw [run_piece_l0] at H
    refine T.seq ?_
    refine T.region ?_
    refine RunT.ot0 (x := .v (.bool (decide (v11 < a1)))) rfl rfl rfl rfl (.bin rfl rfl (fun w => b_lss w) rfl) ?_
    refine RunT.nil ?_
    refine T.seq ?_
    refine T.cond2 (t := decide (v11 < a1)) rfl (fun c12 => ?_) (fun c12 => ?_)
    · replace H := ct H c12
      refine T.skip ?_
      refine T.seq ?_
      refine T.block ?_
      refine T.seq ?_
      refine T.region ?_
      refine RunT.ot0 (x := .v (.int .i64 v11)) rfl rfl rfl rfl (.moveX rfl) ?_
      refine RunT.ot0 (x := .v (.int .i64 v11)) rfl rfl rfl rfl (.assignX rfl) ?_
      refine RunT.nil ?_
      refine T.region ?_
      refine RunT.ot0 (x := .own 0 0 v10.length) rfl rfl rfl rfl (.moveX rfl) ?_
      refine RunT.ot0 (x := .v (.int .i64 a0)) rfl rfl rfl rfl (.moveX rfl) ?_
      refine RunT.ot0 (x := .v (.int .i64 v11)) rfl rfl rfl rfl (.moveX rfl) ?_
      refine RunT.ot0 (x := .v (.int .i64 (wr (a0 + v11)))) rfl rfl rfl rfl (.bin rfl rfl (fun w => b_addw w) rfl) ?_
      refine RunT.ot1 (x := .own 8 0 (([wr (a0 + v11)]).length)) (p0 := (8, some (.arr false 1 (List.map eI [wr (a0 + v11)])))) (n' := 16) rfl rfl rfl rfl (.bslicem (d := false) (l := [wr (a0 + v11)]) (f := eI) sl23 rfl rfl rfl enc_I rfl) rfl ?_
      obtain ⟨h13, H⟩ := gs H
      refine RunT.ot2 (x := .own 16 0 ((v10 ++ [wr (a0 + v11)]).length)) (p0 := (16, some (.arr false 1 (List.map eI (v10 ++ [wr (a0 + v11)]))))) (p1 := (0, none)) (n' := 24) rfl rfl rfl rfl (.appOn (d := false) (l := v10) (m := [wr (a0 + v11)]) (f := eI) rfl sl23 rfl rfl rfl (.ownn Try.underlying23 rfl rfl (fun h => by cases h)) rfl h13) rfl ?_
      refine RunT.ot0 (x := .own 16 0 ((v10 ++ [wr (a0 + v11)]).length)) rfl rfl rfl rfl (.assignX rfl) ?_
      refine RunT.nil ?_
      refine T.sub (sub_pick [0, 5, 7, 8] [16] (st' := ⟨[(0, .v (.int .i64 a0)), (5, .own 16 0 ((v10 ++ [wr (a0 + v11)]).length)), (7, .v (.int .i64 a1)), (8, .v (.int .i64 v11))], [(16, some (.arr false 1 (List.map eI (v10 ++ [wr (a0 + v11)]))))], 24, []⟩) rfl rfl rfl rfl rfl) ?_
      refine T.region ?_
      refine RunT.ot0 (x := .v (.int .i64 (wr (v11 + 1)))) rfl rfl rfl rfl (.bin rfl rfl (fun w => b_addw w) rfl) ?_
      refine RunT.ot0 (x := .v (.int .i64 (wr (v11 + 1)))) rfl rfl rfl rfl (.moveX rfl) ?_
      refine RunT.nil ?_
      exact ⟨n, Nat.lt_succ_self n, _, ⟨v10 ++ [wr (a0 + v11)], wr (v11 + 1), H, rfl⟩, (sub_to [some 16] (by decide) rfl rfl (⟨⟨_, rfl, .one .v⟩, ⟨⟨_, rfl, .one (.own rfl)⟩, ⟨⟨_, rfl, .one .v⟩, ⟨⟨_, rfl, .one .v⟩, trivial⟩⟩⟩⟩) (⟨⟨rfl, .inl ⟨_, _, rfl, rfl, .arr rfl⟩⟩, trivial⟩))⟩
    · replace H := cf H c12
      refine T.exit ?_
      obtain rfl := si H
      exact (sub_to [some 0] (by decide) rfl rfl (⟨⟨_, rfl, .one (.own rfl)⟩, trivial⟩) (⟨⟨rfl, .inl ⟨_, _, rfl, rfl, .arr rfl⟩⟩, trivial⟩))
  · intro s hS
    have H := HO9
    refine T.sub hS ?_
    refine T.seq ?_
    refine T.region ?_
    refine RunT.ot0 (x := .own 0 0 o7.length) rfl rfl rfl rfl (.moveX rfl) ?_
    refine RunT.ot0 (x := .own 0 0 o7.length) rfl rfl rfl rfl (.assignX rfl) ?_
    refine RunT.nil ?_
    obtain rfl := si H
    refine T.sub (sub_to (st' := ⟨[(4, .own 0 0 ((List.map eI o7).length))], [(0, some (.arr false 1 (List.map eI o7)))], 8, []⟩) [some 0] (by decide) rfl rfl (⟨⟨_, rfl, .one (.own' rfl (List.length_map _).symm)⟩, trivial⟩) (⟨⟨rfl, .inl ⟨_, _, rfl, rfl, .arr rfl⟩⟩, trivial⟩)) ?_
    refine T.ret ?_
    exact RetOk.same [.own 0 0 ((List.map eI o7).length)] ⟨rfl, trivial⟩ rfl rfl rfl
set_option maxHeartbeats 4000000 in
theorem run_Take_pc (al : Bool) (k : Nat) (a0 : Venue) (a1 : (List Bool)) (a2 : Int) (a3 : Int) (o : (List Int) × Bool) (H : run_Take k a0 a1 a2 a3 = some o) : PC Try.prog al 97 [.agg [.lst (List.map eSeat a0.Seats), .v (.int .i64 a0.Gap), .v (.int .i64 a0.Radius), .lst (List.map eI a0.Kills), .lst (List.map ePole a0.Poles)], .lst (List.map eB a1), .v (.int .i64 a2), .v (.int .i64 a3)] (.tup [.frs 1 (List.map eI o.1), .v (.bool o.2)]) := by
  unfold run_Take at H
  refine PC.of_T Try.func97 rfl rfl (n := 31) rfl rfl (.inr (flatT_tup ⟨(flat1_frs (sz := 1) fl_I), rfl, trivial⟩)) ?_
  intro base B w0
  refine T.st (st' := ⟨[(0, .agg [.lst (List.map eSeat a0.Seats), .v (.int .i64 a0.Gap), .v (.int .i64 a0.Radius), .lst (List.map eI a0.Kills), .lst (List.map ePole a0.Poles)]), (1, .lst (List.map eB a1)), (2, .v (.int .i64 a2)), (3, .v (.int .i64 a3))], [], 0, []⟩) rfl ?_
  refine T.seq ?_
  refine T.region ?_
  refine RunT.ot1 (x := .ptr 0 0) (p0 := (0, some (.box [.lst (List.map eSeat a0.Seats), .v (.int .i64 a0.Gap), .v (.int .i64 a0.Radius), .lst (List.map eI a0.Kills), .lst (List.map ePole a0.Poles)]))) (n' := 8) rfl rfl rfl rfl (.boxX rfl rfl rfl) rfl ?_
  refine RunT.ot0 (x := .v (.slice none 0 0)) rfl rfl rfl rfl (.assignX rfl) ?_
  refine RunT.ot0 (x := .v (.bool false)) rfl rfl rfl rfl (.assignX rfl) ?_
  refine RunT.nil ?_
  refine T.seq ?_
  refine T.seq ?_
  refine T.region ?_
  refine RunT.ot0 (x := .v (.int .i64 a3)) rfl rfl rfl rfl (.moveX rfl) ?_
  refine RunT.ot0 (x := .v (.bool (decide (a3 < 1)))) rfl rfl rfl rfl (.bin rfl rfl (fun w => b_lss w) rfl) ?_
  refine RunT.ot0 (x := .v (.bool (decide (a3 < 1)))) rfl rfl rfl rfl (.moveX rfl) ?_
  refine RunT.cases (t := 12) (c := decide (a3 < 1)) rfl (fun g1 => ?_) (fun g1 => ?_)
  · replace H := ct H g1
    refine RunT.xn rfl rfl rfl (bo g1) rfl rfl ?_
    refine RunT.xn rfl rfl rfl (bo g1) rfl rfl ?_
    refine RunT.xn rfl rfl rfl (bo g1) rfl rfl ?_
    refine RunT.xn rfl rfl rfl (bo g1) rfl rfl ?_
    refine RunT.xn rfl rfl rfl (bo g1) rfl rfl ?_
    refine RunT.ot0 (x := .v (.bool true)) rfl rfl rfl rfl (.pickT (bo g1) rfl) ?_
    refine RunT.ot0 (x := .v (.bool true)) rfl rfl rfl rfl (.moveX rfl) ?_
    refine RunT.xn rfl rfl rfl rfl rfl rfl ?_
    refine RunT.xn rfl rfl rfl rfl rfl rfl ?_
    refine RunT.xn rfl rfl rfl rfl rfl rfl ?_
    refine RunT.xn rfl rfl rfl rfl rfl rfl ?_
    refine RunT.xn rfl rfl rfl rfl rfl rfl ?_
    refine RunT.xn rfl rfl rfl rfl rfl rfl ?_
    refine RunT.xn rfl rfl rfl rfl rfl rfl ?_
    refine RunT.ot0 (x := .v (.bool true)) rfl rfl rfl rfl (.pickT rfl rfl) ?_
    refine RunT.nil ?_
    refine T.condT rfl ?_
    refine T.seq ?_
    refine T.region ?_
    refine RunT.ot0 (x := .v (.slice none 0 0)) rfl rfl rfl rfl (.assignX rfl) ?_
    refine RunT.ot0 (x := .v (.bool false)) rfl rfl rfl rfl (.assignX rfl) ?_
    refine RunT.nil ?_
    obtain rfl := si H
    refine T.sub (sub_to (st' := ⟨[(8, .own 0 0 0), (9, .v (.bool false))], [(0, some (.arr false 1 (List.map eI [])))], 8, []⟩) [none] (by decide) rfl rfl (⟨⟨_, rfl, .one .nilO⟩, ⟨⟨_, rfl, .one .v⟩, trivial⟩⟩) (⟨⟨rfl, .inr ⟨rfl, false, _, rfl, (by decide)⟩⟩, trivial⟩)) ?_
    refine T.ret ?_
    exact RetOk.same [.own 0 0 0, .v (.bool false)] ⟨rfl, rfl, trivial⟩ rfl rfl rfl
  · replace H := cf H g1
    refine RunT.gt0 (x := .v (.int .i64 a3)) rfl rfl rfl (bo g1) rfl rfl (.moveX rfl) ?_
    refine RunT.gt0 (x := .ptr 0 0) rfl rfl rfl (bo g1) rfl rfl (.fieldPX fl26_0 rfl rfl) ?_
    refine RunT.gt0 (x := .lst (List.map eSeat a0.Seats)) rfl rfl rfl (bo g1) rfl rfl (.loadP ty22 rfl rfl rfl) ?_
    refine RunT.gt0 (x := .v (.int .i64 (a0.Seats.length : Int))) rfl rfl rfl (bo g1) rfl rfl (.lenLm Try.underlying22 rfl rfl) ?_
    refine RunT.gt0 (x := .v (.bool (decide ((a0.Seats.length : Int) < a3)))) rfl rfl rfl (bo g1) rfl rfl (.bin rfl rfl (fun w => b_gtr w) rfl) ?_
    refine RunT.ot0 (x := .v (.bool (decide ((a0.Seats.length : Int) < a3)))) rfl rfl rfl rfl (.pickF (bo g1) rfl) ?_
    refine RunT.ot0 (x := .v (.bool (decide ((a0.Seats.length : Int) < a3)))) rfl rfl rfl rfl (.moveX rfl) ?_
    refine RunT.cases (t := 19) (c := decide ((a0.Seats.length : Int) < a3)) rfl (fun g2 => ?_) (fun g2 => ?_)
    · replace H := ct H g2
      refine RunT.xn rfl rfl rfl (bo g2) rfl rfl ?_
      refine RunT.xn rfl rfl rfl (bo g2) rfl rfl ?_
      refine RunT.xn rfl rfl rfl (bo g2) rfl rfl ?_
      refine RunT.xn rfl rfl rfl (bo g2) rfl rfl ?_
      refine RunT.xn rfl rfl rfl (bo g2) rfl rfl ?_
      refine RunT.xn rfl rfl rfl (bo g2) rfl rfl ?_
      refine RunT.xn rfl rfl rfl (bo g2) rfl rfl ?_
      refine RunT.ot0 (x := .v (.bool true)) rfl rfl rfl rfl (.pickT (bo g2) rfl) ?_
      refine RunT.nil ?_
      refine T.condT rfl ?_
      refine T.seq ?_
      refine T.sub (sub_pick [] [] (st' := ⟨[], [], 8, []⟩) rfl rfl rfl rfl rfl) ?_
      refine T.region ?_
      refine RunT.ot0 (x := .v (.slice none 0 0)) rfl rfl rfl rfl (.assignX rfl) ?_
      refine RunT.ot0 (x := .v (.bool false)) rfl rfl rfl rfl (.assignX rfl) ?_
      refine RunT.nil ?_
      obtain rfl := si H
      refine T.sub (sub_to (st' := ⟨[(8, .own 0 0 0), (9, .v (.bool false))], [(0, some (.arr false 1 (List.map eI [])))], 8, []⟩) [none] (by decide) rfl rfl (⟨⟨_, rfl, .one .nilO⟩, ⟨⟨_, rfl, .one .v⟩, trivial⟩⟩) (⟨⟨rfl, .inr ⟨rfl, false, _, rfl, (by decide)⟩⟩, trivial⟩)) ?_
      refine T.ret ?_
      exact RetOk.same [.own 0 0 0, .v (.bool false)] ⟨rfl, rfl, trivial⟩ rfl rfl rfl
    · replace H := cf H g2
      refine RunT.gt0 (x := .agg [.lst (List.map eSeat a0.Seats), .v (.int .i64 a0.Gap), .v (.int .i64 a0.Radius), .lst (List.map eI a0.Kills), .lst (List.map ePole a0.Poles)]) rfl rfl rfl (bo g2) rfl rfl (.loadP ty26 rfl rfl rfl) ?_
      refine RunT.gt0 (x := .lst (List.map eB a1)) rfl rfl rfl (bo g2) rfl rfl (.moveX rfl) ?_
      refine RunT.gt0 (x := .v (.int .i64 a2)) rfl rfl rfl (bo g2) rfl rfl (.moveX rfl) ?_
      refine RunT.gt0 (x := .v (.int .i64 a3)) rfl rfl rfl (bo g2) rfl rfl (.moveX rfl) ?_
      obtain ⟨r3, h4, H⟩ := bs H
      refine RunT.gt0 (x := .v (.int .i64 r3)) rfl rfl rfl (bo g2) rfl rfl (.callp (run_long_pc false k a0 a1 a2 a3 r3 h4) rfl ⟨(.agg' ⟨.lst, .v, .v, .lst, .lst, trivial⟩), (.one .lst), (.one .v), (.one .v), trivial⟩ rfl rfl rfl) ?_
      refine RunT.gt0 (x := .v (.int .i64 a3)) rfl rfl rfl (bo g2) rfl rfl (.moveX rfl) ?_
      refine RunT.gt0 (x := .v (.bool (decide (r3 < a3)))) rfl rfl rfl (bo g2) rfl rfl (.bin rfl rfl (fun w => b_lss w) rfl) ?_
      refine RunT.ot0 (x := .v (.bool (decide (r3 < a3)))) rfl rfl rfl rfl (.pickF (bo g2) rfl) ?_
      refine RunT.nil ?_
      refine T.cond2 (t := decide (r3 < a3)) rfl (fun c5 => ?_) (fun c5 => ?_)
      · replace H := ct H c5
        refine T.seq ?_
        refine T.region ?_
        refine RunT.ot0 (x := .v (.slice none 0 0)) rfl rfl rfl rfl (.assignX rfl) ?_
        refine RunT.ot0 (x := .v (.bool false)) rfl rfl rfl rfl (.assignX rfl) ?_
        refine RunT.nil ?_
        obtain rfl := si H
        refine T.sub (sub_to (st' := ⟨[(8, .own 0 0 0), (9, .v (.bool false))], [(0, some (.arr false 1 (List.map eI [])))], 8, []⟩) [none] (by decide) rfl rfl (⟨⟨_, rfl, .one .nilO⟩, ⟨⟨_, rfl, .one .v⟩, trivial⟩⟩) (⟨⟨rfl, .inr ⟨rfl, false, _, rfl, (by decide)⟩⟩, trivial⟩)) ?_
        refine T.ret ?_
        exact RetOk.same [.own 0 0 0, .v (.bool false)] ⟨rfl, rfl, trivial⟩ rfl rfl rfl
      · replace H := cf H c5
        refine T.skip ?_
        refine T.seq ?_
        refine T.region ?_
        refine RunT.ot0 (x := .v (.int .i64 a2)) rfl rfl rfl rfl (.moveX rfl) ?_
        refine RunT.ot0 (x := .v (.int .i64 a3)) rfl rfl rfl rfl (.moveX rfl) ?_
        obtain ⟨r6, h7, H⟩ := bs H
        refine RunT.ot1 (x := .own 8 0 ((List.map eI r6).length)) (p0 := (8, some (.arr false 1 (List.map eI r6)))) (n' := 16) rfl rfl rfl rfl (.callp (run_piece_pc false k a2 a3 r6 h7) rfl ⟨(.one .v), (.one .v), trivial⟩ rfl rfl rfl) rfl ?_
        refine RunT.ot0 (x := .own 8 0 ((List.map eI r6).length)) rfl rfl rfl rfl (.assignX rfl) ?_
        refine RunT.ot0 (x := .v (.bool true)) rfl rfl rfl rfl (.assignX rfl) ?_
        refine RunT.nil ?_
        obtain rfl := si H
        refine T.sub (sub_to (st' := ⟨[(8, .own 0 0 ((List.map eI r6).length)), (9, .v (.bool true))], [(0, some (.arr false 1 (List.map eI r6)))], 8, []⟩) [some 8] (by decide) rfl rfl (⟨⟨_, rfl, .one (.own' rfl ((List.length_map _).trans (List.length_map _).symm))⟩, ⟨⟨_, rfl, .one .v⟩, trivial⟩⟩) (⟨⟨rfl, .inl ⟨_, _, rfl, rfl, .arr rfl⟩⟩, trivial⟩)) ?_
        refine T.ret ?_
        exact RetOk.same [.own 0 0 ((List.map eI r6).length), .v (.bool true)] ⟨rfl, rfl, trivial⟩ rfl rfl rfl
set_option maxHeartbeats 4000000 in
theorem party_May_pc (al : Bool) (k : Nat) (a0 : Party) (o : Bool) (H : party_May k a0 = some o) : PC Try.prog al 140 [.agg [.v (.int .i64 a0.Size), .v (.int .i64 a0.Wheels)]] (.v (.bool o)) := by
  unfold party_May at H
  refine PC.of_T Try.func140 rfl rfl (n := 26) rfl rfl (.inr rfl) ?_
  intro base B w0
  refine T.st (st' := ⟨[(0, .agg [.v (.int .i64 a0.Size), .v (.int .i64 a0.Wheels)])], [], 0, []⟩) rfl ?_
  refine T.seq ?_
  refine T.region ?_
  refine RunT.ot1 (x := .ptr 0 0) (p0 := (0, some (.box [.v (.int .i64 a0.Size), .v (.int .i64 a0.Wheels)]))) (n' := 8) rfl rfl rfl rfl (.boxX rfl rfl rfl) rfl ?_
  refine RunT.ot0 (x := .v (.bool false)) rfl rfl rfl rfl (.assignX rfl) ?_
  refine RunT.nil ?_
  refine T.seq ?_
  refine T.block ?_
  refine T.seq ?_
  refine T.block ?_
  refine T.block ?_
  refine T.block ?_
  refine T.seq ?_
  refine T.seq ?_
  refine T.seq ?_
  refine T.region ?_
  refine RunT.ot0 (x := .ptr 0 0) rfl rfl rfl rfl (.fieldPX fl66_0 rfl rfl) ?_
  refine RunT.ot0 (x := .v (.int .i64 a0.Size)) rfl rfl rfl rfl (.loadP ty3 rfl rfl rfl) ?_
  refine RunT.ot0 (x := .v (.bool (decide (a0.Size < 1)))) rfl rfl rfl rfl (.bin rfl rfl (fun w => b_lss w) rfl) ?_
  refine RunT.ot0 (x := .v (.bool (decide (a0.Size < 1)))) rfl rfl rfl rfl (.assignX rfl) ?_
  refine RunT.nil ?_
  refine T.cond2 (t := decide (a0.Size < 1)) rfl (fun c1 => ?_) (fun c1 => ?_)
  · replace H := ct H c1
    refine T.exit ?_
    refine T.seq ?_
    refine T.seq ?_
    refine T.region ?_
    refine RunT.ot0 (x := .v (.bool false)) rfl rfl rfl rfl (.assignX rfl) ?_
    refine RunT.nil ?_
    obtain rfl := si H
    refine T.sub (sub_to (st' := ⟨[(2, .v (.bool false))], [], 8, []⟩) [] (by decide) rfl rfl (⟨⟨_, rfl, .one .v⟩, trivial⟩) (trivial)) ?_
    refine T.ret ?_
    exact RetOk.same [.v (.bool false)] ⟨rfl, trivial⟩ rfl rfl rfl
  · replace H := cf H c1
    refine T.skip ?_
    refine T.seq ?_
    refine T.seq ?_
    refine T.region ?_
    refine RunT.ot0 (x := .ptr 0 0) rfl rfl rfl rfl (.fieldPX fl66_0 rfl rfl) ?_
    refine RunT.ot0 (x := .v (.int .i64 a0.Size)) rfl rfl rfl rfl (.loadP ty3 rfl rfl rfl) ?_
    refine RunT.ot0 (x := .v (.bool (decide (8 < a0.Size)))) rfl rfl rfl rfl (.bin rfl rfl (fun w => b_gtr w) rfl) ?_
    refine RunT.ot0 (x := .v (.bool (decide (8 < a0.Size)))) rfl rfl rfl rfl (.assignX rfl) ?_
    refine RunT.nil ?_
    refine T.cond2 (t := decide (8 < a0.Size)) rfl (fun c2 => ?_) (fun c2 => ?_)
    · replace H := ct H c2
      refine T.exit ?_
      refine T.seq ?_
      refine T.seq ?_
      refine T.region ?_
      refine RunT.ot0 (x := .v (.bool false)) rfl rfl rfl rfl (.assignX rfl) ?_
      refine RunT.nil ?_
      obtain rfl := si H
      refine T.sub (sub_to (st' := ⟨[(2, .v (.bool false))], [], 8, []⟩) [] (by decide) rfl rfl (⟨⟨_, rfl, .one .v⟩, trivial⟩) (trivial)) ?_
      refine T.ret ?_
      exact RetOk.same [.v (.bool false)] ⟨rfl, trivial⟩ rfl rfl rfl
    · replace H := cf H c2
      refine T.skip ?_
      refine T.seq ?_
      refine T.region ?_
      refine RunT.ot0 (x := .ptr 0 1) rfl rfl rfl rfl (.fieldPX fl66_1 rfl rfl) ?_
      refine RunT.ot0 (x := .v (.int .i64 a0.Wheels)) rfl rfl rfl rfl (.loadP ty3 rfl rfl rfl) ?_
      refine RunT.ot0 (x := .v (.bool (decide (a0.Wheels < 0)))) rfl rfl rfl rfl (.bin rfl rfl (fun w => b_lss w) rfl) ?_
      refine RunT.ot0 (x := .v (.bool (decide (a0.Wheels < 0)))) rfl rfl rfl rfl (.assignX rfl) ?_
      refine RunT.nil ?_
      refine T.cond2 (t := decide (a0.Wheels < 0)) rfl (fun c3 => ?_) (fun c3 => ?_)
      · replace H := ct H c3
        refine T.exit ?_
        refine T.seq ?_
        refine T.seq ?_
        refine T.sub (sub_pick [] [] (st' := ⟨[], [], 8, []⟩) rfl rfl rfl rfl rfl) ?_
        refine T.region ?_
        refine RunT.ot0 (x := .v (.bool false)) rfl rfl rfl rfl (.assignX rfl) ?_
        refine RunT.nil ?_
        obtain rfl := si H
        refine T.sub (sub_to (st' := ⟨[(2, .v (.bool false))], [], 8, []⟩) [] (by decide) rfl rfl (⟨⟨_, rfl, .one .v⟩, trivial⟩) (trivial)) ?_
        refine T.ret ?_
        exact RetOk.same [.v (.bool false)] ⟨rfl, trivial⟩ rfl rfl rfl
      · replace H := cf H c3
        refine T.skip ?_
        refine T.exit ?_
        refine T.seq ?_
        refine T.region ?_
        refine RunT.ot0 (x := .ptr 0 1) rfl rfl rfl rfl (.fieldPX fl66_1 rfl rfl) ?_
        refine RunT.ot0 (x := .v (.int .i64 a0.Wheels)) rfl rfl rfl rfl (.loadP ty3 rfl rfl rfl) ?_
        refine RunT.ot0 (x := .v (.bool (decide (a0.Wheels ≤ 2)))) rfl rfl rfl rfl (.bin rfl rfl (fun w => b_leq w) rfl) ?_
        refine RunT.ot0 (x := .v (.bool (decide (a0.Wheels ≤ 2)))) rfl rfl rfl rfl (.moveX rfl) ?_
        refine RunT.cases (t := 18) (c := decide (a0.Wheels ≤ 2)) rfl (fun g4 => ?_) (fun g4 => ?_)
        · replace H := ct H g4
          refine RunT.gt0 (x := .ptr 0 1) rfl rfl rfl (bo g4) rfl rfl (.fieldPX fl66_1 rfl rfl) ?_
          refine RunT.gt0 (x := .v (.int .i64 a0.Wheels)) rfl rfl rfl (bo g4) rfl rfl (.loadP ty3 rfl rfl rfl) ?_
          refine RunT.gt0 (x := .v (.int .i64 (wr (2 * a0.Wheels)))) rfl rfl rfl (bo g4) rfl rfl (.bin rfl rfl (fun w => b_mulw w) rfl) ?_
          refine RunT.gt0 (x := .ptr 0 0) rfl rfl rfl (bo g4) rfl rfl (.fieldPX fl66_0 rfl rfl) ?_
          refine RunT.gt0 (x := .v (.int .i64 a0.Size)) rfl rfl rfl (bo g4) rfl rfl (.loadP ty3 rfl rfl rfl) ?_
          refine RunT.gt0 (x := .v (.bool (decide ((wr (2 * a0.Wheels)) ≤ a0.Size)))) rfl rfl rfl (bo g4) rfl rfl (.bin rfl rfl (fun w => b_leq w) rfl) ?_
          refine RunT.ot0 (x := .v (.bool (decide ((wr (2 * a0.Wheels)) ≤ a0.Size)))) rfl rfl rfl rfl (.pickT (bo g4) rfl) ?_
          refine RunT.ot0 (x := .v (.bool (decide ((wr (2 * a0.Wheels)) ≤ a0.Size)))) rfl rfl rfl rfl (.assignX rfl) ?_
          refine RunT.nil ?_
          obtain rfl := si H
          refine T.sub (sub_to (st' := ⟨[(2, .v (.bool (decide ((wr (2 * a0.Wheels)) ≤ a0.Size))))], [], 8, []⟩) [] (by decide) rfl rfl (⟨⟨_, rfl, .one .v⟩, trivial⟩) (trivial)) ?_
          refine T.ret ?_
          exact RetOk.same [.v (.bool (decide ((wr (2 * a0.Wheels)) ≤ a0.Size)))] ⟨rfl, trivial⟩ rfl rfl rfl
        · replace H := cf H g4
          refine RunT.xn rfl rfl rfl (bo g4) rfl rfl ?_
          refine RunT.xn rfl rfl rfl (bo g4) rfl rfl ?_
          refine RunT.xn rfl rfl rfl (bo g4) rfl rfl ?_
          refine RunT.xn rfl rfl rfl (bo g4) rfl rfl ?_
          refine RunT.xn rfl rfl rfl (bo g4) rfl rfl ?_
          refine RunT.xn rfl rfl rfl (bo g4) rfl rfl ?_
          refine RunT.ot0 (x := .v (.bool false)) rfl rfl rfl rfl (.pickF (bo g4) rfl) ?_
          refine RunT.ot0 (x := .v (.bool false)) rfl rfl rfl rfl (.assignX rfl) ?_
          refine RunT.nil ?_
          obtain rfl := si H
          refine T.sub (sub_to (st' := ⟨[(2, .v (.bool false))], [], 8, []⟩) [] (by decide) rfl rfl (⟨⟨_, rfl, .one .v⟩, trivial⟩) (trivial)) ?_
          refine T.ret ?_
          exact RetOk.same [.v (.bool false)] ⟨rfl, trivial⟩ rfl rfl rfl
set_option maxHeartbeats 4000000 in
theorem place_Hall_kinds_1_pc (al : Bool) (k : Nat) (a0 : Int) (a1 : (List Int)) (a2 : PlaceHall) (o : Int) (H : place_Hall_kinds_1 k a0 a1 a2 = some o) : PC Try.prog al 157 [.v (.int .i64 a0), .rptr [.lst (List.map eI a1)], .rptr [.lst (List.map eSeat a2.V.Seats), .v (.int .i64 a2.V.Gap), .v (.int .i64 a2.V.Radius), .lst (List.map eI a2.V.Kills), .lst (List.map ePole a2.V.Poles), .lst (List.map eB a2.usable)]] (.v (.int .i64 o)) := by
  unfold place_Hall_kinds_1 at H
  refine PC.of_T Try.func157 rfl rfl (n := 23) rfl rfl (.inr rfl) ?_
  intro base B w0
  refine T.st (st' := ⟨[(0, .v (.int .i64 a0)), (1, .rptr [.lst (List.map eI a1)]), (2, .rptr [.lst (List.map eSeat a2.V.Seats), .v (.int .i64 a2.V.Gap), .v (.int .i64 a2.V.Radius), .lst (List.map eI a2.V.Kills), .lst (List.map ePole a2.V.Poles), .lst (List.map eB a2.usable)])], [], 0, []⟩) rfl ?_
  refine T.seq ?_
  refine T.region ?_
  refine RunT.ot0 (x := .v (.int .i64 0)) rfl rfl rfl rfl (.assignX rfl) ?_
  refine RunT.nil ?_
  refine T.seq ?_
  refine T.seq ?_
  refine T.region ?_
  refine RunT.ot0 (x := .v (.int .i64 a0)) rfl rfl rfl rfl (.moveX rfl) ?_
  refine RunT.ot0 (x := .v (.bool (decide (a0 < 0)))) rfl rfl rfl rfl (.bin rfl rfl (fun w => b_lss w) rfl) ?_
  refine RunT.ot0 (x := .v (.bool (decide (a0 < 0)))) rfl rfl rfl rfl (.moveX rfl) ?_
  refine RunT.cases (t := 7) (c := decide (a0 < 0)) rfl (fun g1 => ?_) (fun g1 => ?_)
  · replace H := ct H g1
    refine RunT.xn rfl rfl rfl (bo g1) rfl rfl ?_
    refine RunT.xn rfl rfl rfl (bo g1) rfl rfl ?_
    refine RunT.xn rfl rfl rfl (bo g1) rfl rfl ?_
    refine RunT.xn rfl rfl rfl (bo g1) rfl rfl ?_
    refine RunT.ot0 (x := .v (.bool true)) rfl rfl rfl rfl (.pickT (bo g1) rfl) ?_
    refine RunT.nil ?_
    refine T.condT rfl ?_
    refine T.seq ?_
    refine T.region ?_
    refine RunT.ot0 (x := .v (.int .i64 0)) rfl rfl rfl rfl (.assignX rfl) ?_
    refine RunT.nil ?_
    obtain rfl := si H
    refine T.sub (sub_to (st' := ⟨[(4, .v (.int .i64 0))], [], 8, []⟩) [] (by decide) rfl rfl (⟨⟨_, rfl, .one .v⟩, trivial⟩) (trivial)) ?_
    refine T.ret ?_
    exact RetOk.same [.v (.int .i64 0)] ⟨rfl, trivial⟩ rfl rfl rfl
  · replace H := cf H g1
    refine RunT.gt0 (x := .v (.int .i64 a0)) rfl rfl rfl (bo g1) rfl rfl (.moveX rfl) ?_
    refine RunT.gt0 (x := .lst (List.map eI a1)) rfl rfl rfl (bo g1) rfl rfl (.loadR ty23 rfl rfl) ?_
    refine RunT.gt0 (x := .v (.int .i64 (a1.length : Int))) rfl rfl rfl (bo g1) rfl rfl (.lenLm Try.underlying23 rfl rfl) ?_
    refine RunT.gt0 (x := .v (.bool (decide ((a1.length : Int) ≤ a0)))) rfl rfl rfl (bo g1) rfl rfl (.bin rfl rfl (fun w => b_geq w) rfl) ?_
    refine RunT.ot0 (x := .v (.bool (decide ((a1.length : Int) ≤ a0)))) rfl rfl rfl rfl (.pickF (bo g1) rfl) ?_
    refine RunT.nil ?_
    refine T.cond2 (t := decide ((a1.length : Int) ≤ a0)) rfl (fun c2 => ?_) (fun c2 => ?_)
    · replace H := ct H c2
      refine T.seq ?_
      refine T.region ?_
      refine RunT.ot0 (x := .v (.int .i64 0)) rfl rfl rfl rfl (.assignX rfl) ?_
      refine RunT.nil ?_
      obtain rfl := si H
      refine T.sub (sub_to (st' := ⟨[(4, .v (.int .i64 0))], [], 8, []⟩) [] (by decide) rfl rfl (⟨⟨_, rfl, .one .v⟩, trivial⟩) (trivial)) ?_
      refine T.ret ?_
      exact RetOk.same [.v (.int .i64 0)] ⟨rfl, trivial⟩ rfl rfl rfl
    · replace H := cf H c2
      refine T.skip ?_
      refine T.seq ?_
      refine T.draw (wr := []) mixed rfl rfl ?_ rfl
      refine RunD.ot0 (x := .rptr [.lst (List.map eSeat a2.V.Seats), .v (.int .i64 a2.V.Gap), .v (.int .i64 a2.V.Radius), .lst (List.map eI a2.V.Kills), .lst (List.map ePole a2.V.Poles), .lst (List.map eB a2.usable)]) rfl rfl rfl rfl (.fieldRX fl115_0 rfl rfl) rfl ?_
      refine RunD.ot0 (x := .rptr [.lst (List.map eSeat a2.V.Seats), .v (.int .i64 a2.V.Gap), .v (.int .i64 a2.V.Radius), .lst (List.map eI a2.V.Kills), .lst (List.map ePole a2.V.Poles), .lst (List.map eB a2.usable)]) rfl rfl rfl rfl (.fieldRX fl26_0 rfl rfl) rfl ?_
      refine RunD.ot0 (x := .lst (List.map eSeat a2.V.Seats)) rfl rfl rfl rfl (.loadR ty22 rfl rfl) rfl ?_
      refine RunD.ot0 (x := .lst (List.map eI a1)) rfl rfl rfl rfl (.loadR ty23 rfl rfl) rfl ?_
      refine RunD.ot0 (x := .v (.int .i64 a0)) rfl rfl rfl rfl (.moveX rfl) rfl ?_
      obtain ⟨y7, h8, H⟩ := bs H
      refine RunD.ot0 (x := .rptr [.v (.int .i64 y7)]) rfl rfl rfl rfl (.idxLX h8 enc_I sl23 rfl rfl rfl) rfl ?_
      refine RunD.ot0 (x := .v (.int .i64 y7)) rfl rfl rfl rfl (.loadR ty3 rfl rfl) rfl ?_
      obtain ⟨y9, h10, H⟩ := bs H
      refine RunD.ot0 (x := .rptr [.v (.int .i64 y9.Row), .v (.int .i64 y9.X), .v (.int .i64 y9.Y), .v (.int .i64 y9.Kind)]) rfl rfl rfl rfl (.idxLX h10 enc_Seat sl22 rfl rfl rfl) rfl ?_
      refine RunD.ot0 (x := .rptr [.v (.int .i64 y9.Kind)]) rfl rfl rfl rfl (.fieldRX fl28_3 rfl rfl) rfl ?_
      refine RunD.ot0 (x := .v (.int .i64 y9.Kind)) rfl rfl rfl rfl (.loadR ty3 rfl rfl) rfl ?_
      refine RunD.ot0 (x := .v (.int .i64 y9.Kind)) rfl rfl rfl rfl (.assignX rfl) rfl ?_
      refine RunD.nil (by kernel_rfl) ⟨rfl, rfl, ?_⟩
      obtain rfl := si H
      refine T.sub (sub_to (st' := ⟨[(4, .v (.int .i64 y9.Kind))], [], 8, []⟩) [] (by decide) rfl rfl (⟨⟨_, rfl, .one .v⟩, trivial⟩) (trivial)) ?_
      refine T.ret ?_
      exact RetOk.same [.v (.int .i64 y9.Kind)] ⟨rfl, trivial⟩ rfl rfl rfl
set_option maxHeartbeats 4000000 in
theorem place_Hall_kinds_pc (al : Bool) (k : Nat) (a0 : PlaceHall) (a1 : (List Int)) (a2 : Int) (o : Bool) (H : place_Hall_kinds k a0 a1 a2 = some o) : PC Try.prog al 141 [.agg [.lst (List.map eSeat a0.V.Seats), .v (.int .i64 a0.V.Gap), .v (.int .i64 a0.V.Radius), .lst (List.map eI a0.V.Kills), .lst (List.map ePole a0.V.Poles), .lst (List.map eB a0.usable)], .lst (List.map eI a1), .v (.int .i64 a2)] (.v (.bool o)) := by
  unfold place_Hall_kinds at H
  refine PC.of_T Try.func141 rfl rfl (n := 52) rfl rfl (.inr rfl) ?_
  intro base B w0
  refine T.st (st' := ⟨[(0, .agg [.lst (List.map eSeat a0.V.Seats), .v (.int .i64 a0.V.Gap), .v (.int .i64 a0.V.Radius), .lst (List.map eI a0.V.Kills), .lst (List.map ePole a0.V.Poles), .lst (List.map eB a0.usable)]), (1, .lst (List.map eI a1)), (2, .v (.int .i64 a2))], [], 0, []⟩) rfl ?_
  refine T.seq ?_
  refine T.region ?_
  refine RunT.ot1 (x := .ptr 0 0) (p0 := (0, some (.box [.lst (List.map eSeat a0.V.Seats), .v (.int .i64 a0.V.Gap), .v (.int .i64 a0.V.Radius), .lst (List.map eI a0.V.Kills), .lst (List.map ePole a0.V.Poles), .lst (List.map eB a0.usable)]))) (n' := 8) rfl rfl rfl rfl (.boxX rfl rfl rfl) rfl ?_
  refine RunT.ot1 (x := .ptr 8 0) (p0 := (8, some (.box [.lst (List.map eI a1)]))) (n' := 16) rfl rfl rfl rfl (.boxX rfl rfl rfl) rfl ?_
  refine RunT.ot0 (x := .v (.bool false)) rfl rfl rfl rfl (.assignX rfl) ?_
  refine RunT.nil ?_
  refine T.seq ?_
  refine T.region ?_
  refine RunT.ot0 (x := .clo 157 [.ptr 8 0, .ptr 0 0]) rfl rfl rfl rfl (.mkfunc rfl rfl) ?_
  refine RunT.ot0 (x := .clo 157 [.ptr 8 0, .ptr 0 0]) rfl rfl rfl rfl (.assignX rfl) ?_
  refine RunT.nil ?_
  refine T.seq ?_
  refine T.region ?_
  refine RunT.ot0 (x := .v (.int .i64 0)) rfl rfl rfl rfl (.assignX rfl) ?_
  refine RunT.ot0 (x := .v (.int .i64 0)) rfl rfl rfl rfl (.assignX rfl) ?_
  refine RunT.nil ?_
  refine T.seq ?_
  refine T.seq ?_
  refine T.region ?_
  refine RunT.ot0 (x := .lst (List.map eI a1)) rfl rfl rfl rfl (.loadP ty23 rfl rfl rfl) ?_
  refine RunT.ot0 (x := .v (.int .i64 (a1.length : Int))) rfl rfl rfl rfl (.lenLm Try.underlying23 rfl rfl) ?_
  refine RunT.ot0 (x := .v (.int .i64 0)) rfl rfl rfl rfl (.moveX rfl) ?_
  refine RunT.nil ?_
  obtain ⟨o26, E27, HO28⟩ := bs H
  refine T.cutPE (fun v29 => o26 = .go v29) (fun v29 => ⟨[(2, .v (.int .i64 a2)), (8, .v (.int .i64 v29.1)), (9, .v (.int .i64 v29.2))], [], 8, []⟩) ?_ ?_
  · have H := E27
    refine T.block ?_
    refine T.loopS (fun n s => ∃ (v30 : Int) (v31 : Int) (v32 : Int), place_Hall_kinds_l0 k a0 a1 n v30 v31 v32 = some o26 ∧ s = ⟨[(2, .v (.int .i64 a2)), (7, .clo 157 [.ptr 0 0, .ptr 1 0]), (8, .v (.int .i64 v30)), (9, .v (.int .i64 v31)), (13, .v (.int .i64 (a1.length : Int))), (14, .v (.int .i64 v32))], [(0, some (.box [.lst (List.map eI a1)])), (1, some (.box [.lst (List.map eSeat a0.V.Seats), .v (.int .i64 a0.V.Gap), .v (.int .i64 a0.V.Radius), .lst (List.map eI a0.V.Kills), .lst (List.map ePole a0.V.Poles), .lst (List.map eB a0.usable)]))], 8, []⟩) k ⟨_, ⟨0, 0, 0, H, rfl⟩, sub_to [some 8, some 0] (by decide) rfl rfl (⟨⟨_, rfl, .one .v⟩, ⟨⟨_, rfl, .one (.clo' ⟨(.ptr rfl), (.ptr rfl), trivial⟩)⟩, ⟨⟨_, rfl, .one .v⟩, ⟨⟨_, rfl, .one .v⟩, ⟨⟨_, rfl, .one .v⟩, ⟨⟨_, rfl, .one .v⟩, trivial⟩⟩⟩⟩⟩⟩) (⟨⟨rfl, .inl ⟨_, _, rfl, rfl, .box ⟨.lst, trivial⟩⟩⟩, ⟨⟨rfl, .inl ⟨_, _, rfl, rfl, .box ⟨.lst, .v, .v, .lst, .lst, .lst, trivial⟩⟩⟩, trivial⟩⟩)⟩ ?_
    rintro n s ⟨v30, v31, v32, H, rfl⟩
    rcases n with _ | n
    · cases (show none = some _ from H)
    rw [place_Hall_kinds_l0] at H
    refine T.seq ?_
    refine T.region ?_
    refine RunT.ot0 (x := .v (.bool (decide (v32 < (a1.length : Int))))) rfl rfl rfl rfl (.bin rfl rfl (fun w => b_lss w) rfl) ?_
    refine RunT.nil ?_
    refine T.seq ?_
    refine T.cond2 (t := decide (v32 < (a1.length : Int))) rfl (fun c33 => ?_) (fun c33 => ?_)
    · replace H := ct H c33
      refine T.skip ?_
      refine T.seq ?_
      refine T.block ?_
      refine T.seq ?_
      refine T.sub (sub_pick [2, 7, 8, 9, 13, 14] [0, 1] (st' := ⟨[(2, .v (.int .i64 a2)), (7, .clo 157 [.ptr 0 0, .ptr 1 0]), (8, .v (.int .i64 v30)), (9, .v (.int .i64 v31)), (13, .v (.int .i64 (a1.length : Int))), (14, .v (.int .i64 v32))], [(0, some (.box [.lst (List.map eI a1)])), (1, some (.box [.lst (List.map eSeat a0.V.Seats), .v (.int .i64 a0.V.Gap), .v (.int .i64 a0.V.Radius), .lst (List.map eI a0.V.Kills), .lst (List.map ePole a0.V.Poles), .lst (List.map eB a0.usable)]))], 8, []⟩) rfl rfl rfl rfl rfl) ?_
      refine T.region ?_
      refine RunT.ot0 (x := .v (.int .i64 v32)) rfl rfl rfl rfl (.moveX rfl) ?_
      refine RunT.ot0 (x := .v (.int .i64 v32)) rfl rfl rfl rfl (.assignX rfl) ?_
      refine RunT.nil ?_
      refine T.seq ?_
      refine T.region ?_
      refine RunT.ot0 (x := .clo 157 [.ptr 0 0, .ptr 1 0]) rfl rfl rfl rfl (.moveX rfl) ?_
      refine RunT.ot0 (x := .v (.int .i64 v32)) rfl rfl rfl rfl (.moveX rfl) ?_
      obtain ⟨r34, h35, H⟩ := bs H
      refine RunT.ot0 (x := .v (.int .i64 r34)) rfl rfl rfl rfl (.calln (place_Hall_kinds_1_pc false k v32 a1 a0 r34 h35) [.v (.int .i64 v32)] [.rptr [.lst (List.map eI a1)], .rptr [.lst (List.map eSeat a0.V.Seats), .v (.int .i64 a0.V.Gap), .v (.int .i64 a0.V.Radius), .lst (List.map eI a0.V.Kills), .lst (List.map ePole a0.V.Poles), .lst (List.map eB a0.usable)]] rfl rfl ⟨(.one (.ptr' rfl ⟨.lst, trivial⟩)), (.one (.ptr' rfl ⟨.lst, .v, .v, .lst, .lst, .lst, trivial⟩)), trivial⟩ ⟨(.one .v), trivial⟩ rfl rfl rfl) ?_
      refine RunT.nil ?_
      refine T.block ?_
      refine T.seq ?_
      refine T.region ?_
      refine RunT.ot0 (x := .v (.bool (decide (r34 = 1)))) rfl rfl rfl rfl (.bin rfl rfl (fun w => b_eql w) rfl) ?_
      refine RunT.ot0 (x := .v (.bool (decide (r34 = 1)))) rfl rfl rfl rfl (.assignX rfl) ?_
      refine RunT.nil ?_
      refine T.cond2 (t := decide (r34 = 1)) rfl (fun c36 => ?_) (fun c36 => ?_)
      · replace H := ct H c36
        refine T.seq ?_
        refine T.region ?_
        refine RunT.ot0 (x := .v (.int .i64 v30)) rfl rfl rfl rfl (.moveX rfl) ?_
        refine RunT.ot0 (x := .v (.int .i64 (wr (v30 + 1)))) rfl rfl rfl rfl (.bin rfl rfl (fun w => b_addw w) rfl) ?_
        refine RunT.ot0 (x := .v (.int .i64 (wr (v30 + 1)))) rfl rfl rfl rfl (.assignX rfl) ?_
        refine RunT.nil ?_
        refine T.seq ?_
        refine T.region ?_
        refine RunT.ot0 (x := .clo 157 [.ptr 0 0, .ptr 1 0]) rfl rfl rfl rfl (.moveX rfl) ?_
        refine RunT.ot0 (x := .v (.int .i64 v32)) rfl rfl rfl rfl (.moveX rfl) ?_
        refine RunT.ot0 (x := .v (.int .i64 (wr (v32 - 1)))) rfl rfl rfl rfl (.bin rfl rfl (fun w => b_subw w) rfl) ?_
        obtain ⟨r37, h38, H⟩ := bs H
        refine RunT.ot0 (x := .v (.int .i64 r37)) rfl rfl rfl rfl (.calln (place_Hall_kinds_1_pc false k (wr (v32 - 1)) a1 a0 r37 h38) [.v (.int .i64 (wr (v32 - 1)))] [.rptr [.lst (List.map eI a1)], .rptr [.lst (List.map eSeat a0.V.Seats), .v (.int .i64 a0.V.Gap), .v (.int .i64 a0.V.Radius), .lst (List.map eI a0.V.Kills), .lst (List.map ePole a0.V.Poles), .lst (List.map eB a0.usable)]] rfl rfl ⟨(.one (.ptr' rfl ⟨.lst, trivial⟩)), (.one (.ptr' rfl ⟨.lst, .v, .v, .lst, .lst, .lst, trivial⟩)), trivial⟩ ⟨(.one .v), trivial⟩ rfl rfl rfl) ?_
        refine RunT.ot0 (x := .v (.bool (!decide (r37 = 2)))) rfl rfl rfl rfl (.bin rfl rfl (fun w => b_neq w) rfl) ?_
        refine RunT.ot0 (x := .v (.bool (!decide (r37 = 2)))) rfl rfl rfl rfl (.moveX rfl) ?_
        refine RunT.cases (t := 29) (c := !decide (r37 = 2)) rfl (fun g39 => ?_) (fun g39 => ?_)
        · replace H := ct H g39
          refine RunT.gt0 (x := .clo 157 [.ptr 0 0, .ptr 1 0]) rfl rfl rfl (bo g39) rfl rfl (.moveX rfl) ?_
          refine RunT.gt0 (x := .v (.int .i64 v32)) rfl rfl rfl (bo g39) rfl rfl (.moveX rfl) ?_
          refine RunT.gt0 (x := .v (.int .i64 (wr (v32 + 1)))) rfl rfl rfl (bo g39) rfl rfl (.bin rfl rfl (fun w => b_addw w) rfl) ?_
          obtain ⟨r40, h41, H⟩ := bs H
          refine RunT.gt0 (x := .v (.int .i64 r40)) rfl rfl rfl (bo g39) rfl rfl (.calln (place_Hall_kinds_1_pc false k (wr (v32 + 1)) a1 a0 r40 h41) [.v (.int .i64 (wr (v32 + 1)))] [.rptr [.lst (List.map eI a1)], .rptr [.lst (List.map eSeat a0.V.Seats), .v (.int .i64 a0.V.Gap), .v (.int .i64 a0.V.Radius), .lst (List.map eI a0.V.Kills), .lst (List.map ePole a0.V.Poles), .lst (List.map eB a0.usable)]] rfl rfl ⟨(.one (.ptr' rfl ⟨.lst, trivial⟩)), (.one (.ptr' rfl ⟨.lst, .v, .v, .lst, .lst, .lst, trivial⟩)), trivial⟩ ⟨(.one .v), trivial⟩ rfl rfl rfl) ?_
          refine RunT.gt0 (x := .v (.bool (!decide (r40 = 2)))) rfl rfl rfl (bo g39) rfl rfl (.bin rfl rfl (fun w => b_neq w) rfl) ?_
          refine RunT.ot0 (x := .v (.bool (!decide (r40 = 2)))) rfl rfl rfl rfl (.pickT (bo g39) rfl) ?_
          refine RunT.nil ?_
          refine T.cond2 (t := !decide (r40 = 2)) rfl (fun c42 => ?_) (fun c42 => ?_)
          · replace H := ct H c42
            refine T.seq ?_
            refine T.sub (sub_pick [] [] (st' := ⟨[], [], 8, []⟩) rfl rfl rfl rfl rfl) ?_
            refine T.region ?_
            refine RunT.ot0 (x := .v (.bool false)) rfl rfl rfl rfl (.assignX rfl) ?_
            refine RunT.nil ?_
            obtain rfl := si H
            have HX := exr HO28
            obtain rfl := si HX
            refine T.sub (sub_to (st' := ⟨[(6, .v (.bool false))], [], 8, []⟩) [] (by decide) rfl rfl (⟨⟨_, rfl, .one .v⟩, trivial⟩) (trivial)) ?_
            refine T.ret ?_
            exact RetOk.same [.v (.bool false)] ⟨rfl, trivial⟩ rfl rfl rfl
          · replace H := cf H c42
            refine T.skip ?_
            refine T.region ?_
            refine RunT.ot0 (x := .v (.int .i64 (wr (v32 + 1)))) rfl rfl rfl rfl (.bin rfl rfl (fun w => b_addw w) rfl) ?_
            refine RunT.ot0 (x := .v (.int .i64 (wr (v32 + 1)))) rfl rfl rfl rfl (.moveX rfl) ?_
            refine RunT.nil ?_
            exact ⟨n, Nat.lt_succ_self n, _, ⟨wr (v30 + 1), v31, wr (v32 + 1), H, rfl⟩, (sub_to [some 0, some 1] (by decide) rfl rfl (⟨⟨_, rfl, .one .v⟩, ⟨⟨_, rfl, .one (.clo' ⟨(.ptr rfl), (.ptr rfl), trivial⟩)⟩, ⟨⟨_, rfl, .one .v⟩, ⟨⟨_, rfl, .one .v⟩, ⟨⟨_, rfl, .one .v⟩, ⟨⟨_, rfl, .one .v⟩, trivial⟩⟩⟩⟩⟩⟩) (⟨⟨rfl, .inl ⟨_, _, rfl, rfl, .box ⟨.lst, trivial⟩⟩⟩, ⟨⟨rfl, .inl ⟨_, _, rfl, rfl, .box ⟨.lst, .v, .v, .lst, .lst, .lst, trivial⟩⟩⟩, trivial⟩⟩))⟩
        · replace H := cf H g39
          refine RunT.xn rfl rfl rfl (bo g39) rfl rfl ?_
          refine RunT.xn rfl rfl rfl (bo g39) rfl rfl ?_
          refine RunT.xn rfl rfl rfl (bo g39) rfl rfl ?_
          refine RunT.xn rfl rfl rfl (bo g39) rfl rfl ?_
          refine RunT.xn rfl rfl rfl (bo g39) rfl rfl ?_
          refine RunT.ot0 (x := .v (.bool false)) rfl rfl rfl rfl (.pickF (bo g39) rfl) ?_
          refine RunT.nil ?_
          refine T.condF rfl ?_
          refine T.skip ?_
          refine T.region ?_
          refine RunT.ot0 (x := .v (.int .i64 (wr (v32 + 1)))) rfl rfl rfl rfl (.bin rfl rfl (fun w => b_addw w) rfl) ?_
          refine RunT.ot0 (x := .v (.int .i64 (wr (v32 + 1)))) rfl rfl rfl rfl (.moveX rfl) ?_
          refine RunT.nil ?_
          exact ⟨n, Nat.lt_succ_self n, _, ⟨wr (v30 + 1), v31, wr (v32 + 1), H, rfl⟩, (sub_to [some 0, some 1] (by decide) rfl rfl (⟨⟨_, rfl, .one .v⟩, ⟨⟨_, rfl, .one (.clo' ⟨(.ptr rfl), (.ptr rfl), trivial⟩)⟩, ⟨⟨_, rfl, .one .v⟩, ⟨⟨_, rfl, .one .v⟩, ⟨⟨_, rfl, .one .v⟩, ⟨⟨_, rfl, .one .v⟩, trivial⟩⟩⟩⟩⟩⟩) (⟨⟨rfl, .inl ⟨_, _, rfl, rfl, .box ⟨.lst, trivial⟩⟩⟩, ⟨⟨rfl, .inl ⟨_, _, rfl, rfl, .box ⟨.lst, .v, .v, .lst, .lst, .lst, trivial⟩⟩⟩, trivial⟩⟩))⟩
      · replace H := cf H c36
        refine T.seq ?_
        refine T.region ?_
        refine RunT.ot0 (x := .v (.bool (decide (r34 = 2)))) rfl rfl rfl rfl (.bin rfl rfl (fun w => b_eql w) rfl) ?_
        refine RunT.ot0 (x := .v (.bool (decide (r34 = 2)))) rfl rfl rfl rfl (.assignX rfl) ?_
        refine RunT.nil ?_
        refine T.cond2 (t := decide (r34 = 2)) rfl (fun c43 => ?_) (fun c43 => ?_)
        · replace H := ct H c43
          refine T.region ?_
          refine RunT.ot0 (x := .v (.int .i64 v31)) rfl rfl rfl rfl (.moveX rfl) ?_
          refine RunT.ot0 (x := .v (.int .i64 (wr (v31 + 1)))) rfl rfl rfl rfl (.bin rfl rfl (fun w => b_addw w) rfl) ?_
          refine RunT.ot0 (x := .v (.int .i64 (wr (v31 + 1)))) rfl rfl rfl rfl (.assignX rfl) ?_
          refine RunT.nil ?_
          refine T.region ?_
          refine RunT.ot0 (x := .v (.int .i64 (wr (v32 + 1)))) rfl rfl rfl rfl (.bin rfl rfl (fun w => b_addw w) rfl) ?_
          refine RunT.ot0 (x := .v (.int .i64 (wr (v32 + 1)))) rfl rfl rfl rfl (.moveX rfl) ?_
          refine RunT.nil ?_
          exact ⟨n, Nat.lt_succ_self n, _, ⟨v30, wr (v31 + 1), wr (v32 + 1), H, rfl⟩, (sub_to [some 0, some 1] (by decide) rfl rfl (⟨⟨_, rfl, .one .v⟩, ⟨⟨_, rfl, .one (.clo' ⟨(.ptr rfl), (.ptr rfl), trivial⟩)⟩, ⟨⟨_, rfl, .one .v⟩, ⟨⟨_, rfl, .one .v⟩, ⟨⟨_, rfl, .one .v⟩, ⟨⟨_, rfl, .one .v⟩, trivial⟩⟩⟩⟩⟩⟩) (⟨⟨rfl, .inl ⟨_, _, rfl, rfl, .box ⟨.lst, trivial⟩⟩⟩, ⟨⟨rfl, .inl ⟨_, _, rfl, rfl, .box ⟨.lst, .v, .v, .lst, .lst, .lst, trivial⟩⟩⟩, trivial⟩⟩))⟩
        · replace H := cf H c43
          refine T.skip ?_
          refine T.region ?_
          refine RunT.ot0 (x := .v (.int .i64 (wr (v32 + 1)))) rfl rfl rfl rfl (.bin rfl rfl (fun w => b_addw w) rfl) ?_
          refine RunT.ot0 (x := .v (.int .i64 (wr (v32 + 1)))) rfl rfl rfl rfl (.moveX rfl) ?_
          refine RunT.nil ?_
          exact ⟨n, Nat.lt_succ_self n, _, ⟨v30, v31, wr (v32 + 1), H, rfl⟩, (sub_to [some 0, some 1] (by decide) rfl rfl (⟨⟨_, rfl, .one .v⟩, ⟨⟨_, rfl, .one (.clo' ⟨(.ptr rfl), (.ptr rfl), trivial⟩)⟩, ⟨⟨_, rfl, .one .v⟩, ⟨⟨_, rfl, .one .v⟩, ⟨⟨_, rfl, .one .v⟩, ⟨⟨_, rfl, .one .v⟩, trivial⟩⟩⟩⟩⟩⟩) (⟨⟨rfl, .inl ⟨_, _, rfl, rfl, .box ⟨.lst, trivial⟩⟩⟩, ⟨⟨rfl, .inl ⟨_, _, rfl, rfl, .box ⟨.lst, .v, .v, .lst, .lst, .lst, trivial⟩⟩⟩, trivial⟩⟩))⟩
    · replace H := cf H c33
      refine T.exit ?_
      obtain rfl := si H
      exact ⟨_, rfl, (sub_to [] (by decide) rfl rfl (⟨⟨_, rfl, .one .v⟩, ⟨⟨_, rfl, .one .v⟩, ⟨⟨_, rfl, .one .v⟩, trivial⟩⟩⟩) (trivial))⟩
  · intro v29 s hR hS
    subst hR
    have H := exg HO28
    refine T.sub hS ?_
    refine T.seq ?_
    refine T.block ?_
    refine T.seq ?_
    refine T.block ?_
    refine T.block ?_
    refine T.seq ?_
    refine T.seq ?_
    refine T.seq ?_
    refine T.region ?_
    refine RunT.ot0 (x := .v (.int .i64 a2)) rfl rfl rfl rfl (.moveX rfl) ?_
    refine RunT.ot0 (x := .v (.bool (decide (a2 = 0)))) rfl rfl rfl rfl (.bin rfl rfl (fun w => b_eql w) rfl) ?_
    refine RunT.ot0 (x := .v (.bool (decide (a2 = 0)))) rfl rfl rfl rfl (.moveX rfl) ?_
    refine RunT.cases (t := 44) (c := decide (a2 = 0)) rfl (fun g44 => ?_) (fun g44 => ?_)
    · replace H := ct H g44
      refine RunT.gt0 (x := .v (.int .i64 v29.2)) rfl rfl rfl (bo g44) rfl rfl (.moveX rfl) ?_
      refine RunT.gt0 (x := .v (.bool (decide (0 < v29.2)))) rfl rfl rfl (bo g44) rfl rfl (.bin rfl rfl (fun w => b_gtr w) rfl) ?_
      refine RunT.ot0 (x := .v (.bool (decide (0 < v29.2)))) rfl rfl rfl rfl (.pickT (bo g44) rfl) ?_
      refine RunT.ot0 (x := .v (.bool (decide (0 < v29.2)))) rfl rfl rfl rfl (.assignX rfl) ?_
      refine RunT.nil ?_
      refine T.cond2 (t := decide (0 < v29.2)) rfl (fun c45 => ?_) (fun c45 => ?_)
      · replace H := ct H c45
        refine T.exit ?_
        refine T.seq ?_
        refine T.seq ?_
        refine T.sub (sub_pick [] [] (st' := ⟨[], [], 8, []⟩) rfl rfl rfl rfl rfl) ?_
        refine T.region ?_
        refine RunT.ot0 (x := .v (.bool false)) rfl rfl rfl rfl (.assignX rfl) ?_
        refine RunT.nil ?_
        obtain rfl := si H
        refine T.sub (sub_to (st' := ⟨[(6, .v (.bool false))], [], 8, []⟩) [] (by decide) rfl rfl (⟨⟨_, rfl, .one .v⟩, trivial⟩) (trivial)) ?_
        refine T.ret ?_
        exact RetOk.same [.v (.bool false)] ⟨rfl, trivial⟩ rfl rfl rfl
      · replace H := cf H c45
        refine T.skip ?_
        refine T.seq ?_
        refine T.region ?_
        refine RunT.ot0 (x := .v (.int .i64 v29.1)) rfl rfl rfl rfl (.moveX rfl) ?_
        refine RunT.ot0 (x := .v (.int .i64 a2)) rfl rfl rfl rfl (.moveX rfl) ?_
        refine RunT.ot0 (x := .v (.bool (!decide (v29.1 = a2)))) rfl rfl rfl rfl (.bin rfl rfl (fun w => b_neq w) rfl) ?_
        refine RunT.ot0 (x := .v (.bool (!decide (v29.1 = a2)))) rfl rfl rfl rfl (.assignX rfl) ?_
        refine RunT.nil ?_
        refine T.cond2 (t := !decide (v29.1 = a2)) rfl (fun c46 => ?_) (fun c46 => ?_)
        · replace H := ct H c46
          refine T.exit ?_
          refine T.seq ?_
          refine T.seq ?_
          refine T.region ?_
          refine RunT.ot0 (x := .v (.bool false)) rfl rfl rfl rfl (.assignX rfl) ?_
          refine RunT.nil ?_
          obtain rfl := si H
          refine T.sub (sub_to (st' := ⟨[(6, .v (.bool false))], [], 8, []⟩) [] (by decide) rfl rfl (⟨⟨_, rfl, .one .v⟩, trivial⟩) (trivial)) ?_
          refine T.ret ?_
          exact RetOk.same [.v (.bool false)] ⟨rfl, trivial⟩ rfl rfl rfl
        · replace H := cf H c46
          refine T.skip ?_
          refine T.exit ?_
          refine T.seq ?_
          refine T.region ?_
          refine RunT.ot0 (x := .v (.bool true)) rfl rfl rfl rfl (.assignX rfl) ?_
          refine RunT.nil ?_
          obtain rfl := si H
          refine T.sub (sub_to (st' := ⟨[(6, .v (.bool true))], [], 8, []⟩) [] (by decide) rfl rfl (⟨⟨_, rfl, .one .v⟩, trivial⟩) (trivial)) ?_
          refine T.ret ?_
          exact RetOk.same [.v (.bool true)] ⟨rfl, trivial⟩ rfl rfl rfl
    · replace H := cf H g44
      refine RunT.xn rfl rfl rfl (bo g44) rfl rfl ?_
      refine RunT.xn rfl rfl rfl (bo g44) rfl rfl ?_
      refine RunT.ot0 (x := .v (.bool false)) rfl rfl rfl rfl (.pickF (bo g44) rfl) ?_
      refine RunT.ot0 (x := .v (.bool false)) rfl rfl rfl rfl (.assignX rfl) ?_
      refine RunT.nil ?_
      refine T.condF rfl ?_
      refine T.skip ?_
      refine T.seq ?_
      refine T.region ?_
      refine RunT.ot0 (x := .v (.int .i64 v29.1)) rfl rfl rfl rfl (.moveX rfl) ?_
      refine RunT.ot0 (x := .v (.int .i64 a2)) rfl rfl rfl rfl (.moveX rfl) ?_
      refine RunT.ot0 (x := .v (.bool (!decide (v29.1 = a2)))) rfl rfl rfl rfl (.bin rfl rfl (fun w => b_neq w) rfl) ?_
      refine RunT.ot0 (x := .v (.bool (!decide (v29.1 = a2)))) rfl rfl rfl rfl (.assignX rfl) ?_
      refine RunT.nil ?_
      refine T.cond2 (t := !decide (v29.1 = a2)) rfl (fun c47 => ?_) (fun c47 => ?_)
      · replace H := ct H c47
        refine T.exit ?_
        refine T.seq ?_
        refine T.seq ?_
        refine T.region ?_
        refine RunT.ot0 (x := .v (.bool false)) rfl rfl rfl rfl (.assignX rfl) ?_
        refine RunT.nil ?_
        obtain rfl := si H
        refine T.sub (sub_to (st' := ⟨[(6, .v (.bool false))], [], 8, []⟩) [] (by decide) rfl rfl (⟨⟨_, rfl, .one .v⟩, trivial⟩) (trivial)) ?_
        refine T.ret ?_
        exact RetOk.same [.v (.bool false)] ⟨rfl, trivial⟩ rfl rfl rfl
      · replace H := cf H c47
        refine T.skip ?_
        refine T.exit ?_
        refine T.seq ?_
        refine T.region ?_
        refine RunT.ot0 (x := .v (.bool true)) rfl rfl rfl rfl (.assignX rfl) ?_
        refine RunT.nil ?_
        obtain rfl := si H
        refine T.sub (sub_to (st' := ⟨[(6, .v (.bool true))], [], 8, []⟩) [] (by decide) rfl rfl (⟨⟨_, rfl, .one .v⟩, trivial⟩) (trivial)) ?_
        refine T.ret ?_
        exact RetOk.same [.v (.bool true)] ⟨rfl, trivial⟩ rfl rfl rfl
set_option maxHeartbeats 4000000 in
theorem place_Hall_Seats_pc (al : Bool) (k : Nat) (a0 : PlaceHall) (a1 : Party) (a2 : Int) (o : (List Int) × Bool) (H : place_Hall_Seats k a0 a1 a2 = some o) : PC Try.prog al 111 [.agg [.lst (List.map eSeat a0.V.Seats), .v (.int .i64 a0.V.Gap), .v (.int .i64 a0.V.Radius), .lst (List.map eI a0.V.Kills), .lst (List.map ePole a0.V.Poles), .lst (List.map eB a0.usable)], .agg [.v (.int .i64 a1.Size), .v (.int .i64 a1.Wheels)], .v (.int .i64 a2)] (.tup [.frs 1 (List.map eI o.1), .v (.bool o.2)]) := by
  unfold place_Hall_Seats at H
  refine PC.of_T Try.func111 rfl rfl (n := 35) rfl rfl (.inr (flatT_tup ⟨(flat1_frs (sz := 1) fl_I), rfl, trivial⟩)) ?_
  intro base B w0
  refine T.st (st' := ⟨[(0, .agg [.lst (List.map eSeat a0.V.Seats), .v (.int .i64 a0.V.Gap), .v (.int .i64 a0.V.Radius), .lst (List.map eI a0.V.Kills), .lst (List.map ePole a0.V.Poles), .lst (List.map eB a0.usable)]), (1, .agg [.v (.int .i64 a1.Size), .v (.int .i64 a1.Wheels)]), (2, .v (.int .i64 a2))], [], 0, []⟩) rfl ?_
  refine T.seq ?_
  refine T.region ?_
  refine RunT.ot1 (x := .ptr 0 0) (p0 := (0, some (.box [.lst (List.map eSeat a0.V.Seats), .v (.int .i64 a0.V.Gap), .v (.int .i64 a0.V.Radius), .lst (List.map eI a0.V.Kills), .lst (List.map ePole a0.V.Poles), .lst (List.map eB a0.usable)]))) (n' := 8) rfl rfl rfl rfl (.boxX rfl rfl rfl) rfl ?_
  refine RunT.ot1 (x := .ptr 8 0) (p0 := (8, some (.box [.v (.int .i64 a1.Size), .v (.int .i64 a1.Wheels)]))) (n' := 16) rfl rfl rfl rfl (.boxX rfl rfl rfl) rfl ?_
  refine RunT.ot0 (x := .v (.slice none 0 0)) rfl rfl rfl rfl (.assignX rfl) ?_
  refine RunT.ot0 (x := .v (.bool false)) rfl rfl rfl rfl (.assignX rfl) ?_
  refine RunT.nil ?_
  refine T.seq ?_
  refine T.seq ?_
  refine T.region ?_
  refine RunT.ot0 (x := .agg [.v (.int .i64 a1.Size), .v (.int .i64 a1.Wheels)]) rfl rfl rfl rfl (.loadP ty66 rfl rfl rfl) ?_
  obtain ⟨r1, h2, H⟩ := bs H
  refine RunT.ot0 (x := .v (.bool r1)) rfl rfl rfl rfl (.callp (party_May_pc false k a1 r1 h2) rfl ⟨(.agg' ⟨.v, .v, trivial⟩), trivial⟩ rfl rfl rfl) ?_
  refine RunT.ot0 (x := .v (.bool (!r1))) rfl rfl rfl rfl (.un rfl (fun w => u_not w) rfl) ?_
  refine RunT.nil ?_
  refine T.cond2 (t := !r1) rfl (fun c3 => ?_) (fun c3 => ?_)
  · replace H := ct H c3
    refine T.seq ?_
    refine T.region ?_
    refine RunT.ot0 (x := .v (.slice none 0 0)) rfl rfl rfl rfl (.assignX rfl) ?_
    refine RunT.ot0 (x := .v (.bool false)) rfl rfl rfl rfl (.assignX rfl) ?_
    refine RunT.nil ?_
    obtain rfl := si H
    refine T.sub (sub_to (st' := ⟨[(6, .own 0 0 0), (7, .v (.bool false))], [(0, some (.arr false 1 (List.map eI [])))], 8, []⟩) [none] (by decide) rfl rfl (⟨⟨_, rfl, .one .nilO⟩, ⟨⟨_, rfl, .one .v⟩, trivial⟩⟩) (⟨⟨rfl, .inr ⟨rfl, false, _, rfl, (by decide)⟩⟩, trivial⟩)) ?_
    refine T.ret ?_
    exact RetOk.same [.own 0 0 0, .v (.bool false)] ⟨rfl, rfl, trivial⟩ rfl rfl rfl
  · replace H := cf H c3
    refine T.skip ?_
    refine T.seq ?_
    refine T.region ?_
    refine RunT.ot0 (x := .ptr 0 0) rfl rfl rfl rfl (.fieldPX fl115_0 rfl rfl) ?_
    refine RunT.ot0 (x := .agg [.lst (List.map eSeat a0.V.Seats), .v (.int .i64 a0.V.Gap), .v (.int .i64 a0.V.Radius), .lst (List.map eI a0.V.Kills), .lst (List.map ePole a0.V.Poles)]) rfl rfl rfl rfl (.loadP ty26 rfl rfl rfl) ?_
    refine RunT.ot0 (x := .ptr 0 5) rfl rfl rfl rfl (.fieldPX fl115_1 rfl rfl) ?_
    refine RunT.ot0 (x := .lst (List.map eB a0.usable)) rfl rfl rfl rfl (.loadP ty43 rfl rfl rfl) ?_
    refine RunT.ot0 (x := .v (.int .i64 a2)) rfl rfl rfl rfl (.moveX rfl) ?_
    refine RunT.ot0 (x := .ptr 8 0) rfl rfl rfl rfl (.fieldPX fl66_0 rfl rfl) ?_
    refine RunT.ot0 (x := .v (.int .i64 a1.Size)) rfl rfl rfl rfl (.loadP ty3 rfl rfl rfl) ?_
    obtain ⟨r4, h5, H⟩ := bs H
    refine RunT.ot1 (x := .tup [.own 16 0 ((List.map eI r4.1).length), .v (.bool r4.2)]) (p0 := (16, some (.arr false 1 (List.map eI r4.1)))) (n' := 24) rfl rfl rfl rfl (.callp (run_Take_pc false k a0.V a0.usable a2 a1.Size r4 h5) rfl ⟨(.agg' ⟨.lst, .v, .v, .lst, .lst, trivial⟩), (.one .lst), (.one .v), (.one .v), trivial⟩ rfl rfl rfl) rfl ?_
    refine RunT.ot0 (x := .tup [.own 16 0 ((List.map eI r4.1).length), .v (.bool r4.2)]) rfl rfl rfl rfl (.moveX rfl) ?_
    refine RunT.ot0 (x := .own 16 0 ((List.map eI r4.1).length)) rfl rfl rfl rfl (.extract rfl rfl) ?_
    refine RunT.ot0 (x := .v (.bool r4.2)) rfl rfl rfl rfl (.extract rfl rfl) ?_
    refine RunT.ot0 (x := .own 16 0 ((List.map eI r4.1).length)) rfl rfl rfl rfl (.assignX rfl) ?_
    refine RunT.ot0 (x := .v (.bool r4.2)) rfl rfl rfl rfl (.assignX rfl) ?_
    refine RunT.nil ?_
    refine T.seq ?_
    refine T.seq ?_
    refine T.sub (sub_pick [3, 4, 8, 9] [0, 8, 16] (st' := ⟨[(3, .ptr 0 0), (4, .ptr 8 0), (8, .own 16 0 ((List.map eI r4.1).length)), (9, .v (.bool r4.2))], [(0, some (.box [.lst (List.map eSeat a0.V.Seats), .v (.int .i64 a0.V.Gap), .v (.int .i64 a0.V.Radius), .lst (List.map eI a0.V.Kills), .lst (List.map ePole a0.V.Poles), .lst (List.map eB a0.usable)])), (8, some (.box [.v (.int .i64 a1.Size), .v (.int .i64 a1.Wheels)])), (16, some (.arr false 1 (List.map eI r4.1)))], 24, []⟩) rfl rfl rfl rfl rfl) ?_
    refine T.region ?_
    refine RunT.ot0 (x := .v (.bool r4.2)) rfl rfl rfl rfl (.moveX rfl) ?_
    refine RunT.ot0 (x := .v (.bool (!r4.2))) rfl rfl rfl rfl (.un rfl (fun w => u_not w) rfl) ?_
    refine RunT.ot0 (x := .v (.bool (!r4.2))) rfl rfl rfl rfl (.moveX rfl) ?_
    refine RunT.cases (t := 26) (c := !r4.2) rfl (fun g6 => ?_) (fun g6 => ?_)
    · replace H := ct H g6
      refine RunT.xn rfl rfl rfl (bo g6) rfl rfl ?_
      refine RunT.xn rfl rfl rfl (bo g6) rfl rfl ?_
      refine RunT.xn rfl rfl rfl (bo g6) rfl rfl ?_
      refine RunT.xn rfl rfl rfl (bo g6) rfl rfl ?_
      refine RunT.xn rfl rfl rfl (bo g6) rfl rfl ?_
      refine RunT.xn rfl rfl rfl (bo g6) rfl rfl ?_
      refine RunT.ot0 (x := .v (.bool true)) rfl rfl rfl rfl (.pickT (bo g6) rfl) ?_
      refine RunT.nil ?_
      refine T.condT rfl ?_
      refine T.seq ?_
      refine T.region ?_
      refine RunT.ot0 (x := .v (.slice none 0 0)) rfl rfl rfl rfl (.assignX rfl) ?_
      refine RunT.ot0 (x := .v (.bool false)) rfl rfl rfl rfl (.assignX rfl) ?_
      refine RunT.nil ?_
      obtain rfl := si H
      refine T.sub (sub_to (st' := ⟨[(6, .own 0 0 0), (7, .v (.bool false))], [(0, some (.arr false 1 (List.map eI [])))], 8, []⟩) [none] (by decide) rfl rfl (⟨⟨_, rfl, .one .nilO⟩, ⟨⟨_, rfl, .one .v⟩, trivial⟩⟩) (⟨⟨rfl, .inr ⟨rfl, false, _, rfl, (by decide)⟩⟩, trivial⟩)) ?_
      refine T.ret ?_
      exact RetOk.same [.own 0 0 0, .v (.bool false)] ⟨rfl, rfl, trivial⟩ rfl rfl rfl
    · replace H := cf H g6
      refine RunT.gt0 (x := .agg [.lst (List.map eSeat a0.V.Seats), .v (.int .i64 a0.V.Gap), .v (.int .i64 a0.V.Radius), .lst (List.map eI a0.V.Kills), .lst (List.map ePole a0.V.Poles), .lst (List.map eB a0.usable)]) rfl rfl rfl (bo g6) rfl rfl (.loadP ty115 rfl rfl rfl) ?_
      refine RunT.gt0 (x := .own 16 0 ((List.map eI r4.1).length)) rfl rfl rfl (bo g6) rfl rfl (.moveX rfl) ?_
      refine RunT.gt0 (x := .ptr 8 1) rfl rfl rfl (bo g6) rfl rfl (.fieldPX fl66_1 rfl rfl) ?_
      refine RunT.gt0 (x := .v (.int .i64 a1.Wheels)) rfl rfl rfl (bo g6) rfl rfl (.loadP ty3 rfl rfl rfl) ?_
      obtain ⟨r7, h8, H⟩ := bs H
      refine RunT.gt0 (x := .v (.bool r7)) rfl rfl rfl (bo g6) rfl rfl (.callp (place_Hall_kinds_pc false k a0 r4.1 a1.Wheels r7 h8) rfl ⟨(.agg' ⟨.lst, .v, .v, .lst, .lst, .lst, trivial⟩), (.one (.all rfl ((List.length_map _).trans (List.length_map _).symm))), (.one .v), trivial⟩ rfl rfl rfl) ?_
      refine RunT.gt0 (x := .v (.bool (!r7))) rfl rfl rfl (bo g6) rfl rfl (.un rfl (fun w => u_not w) rfl) ?_
      refine RunT.ot0 (x := .v (.bool (!r7))) rfl rfl rfl rfl (.pickF (bo g6) rfl) ?_
      refine RunT.nil ?_
      refine T.cond2 (t := !r7) rfl (fun c9 => ?_) (fun c9 => ?_)
      · replace H := ct H c9
        refine T.seq ?_
        refine T.region ?_
        refine RunT.ot0 (x := .v (.slice none 0 0)) rfl rfl rfl rfl (.assignX rfl) ?_
        refine RunT.ot0 (x := .v (.bool false)) rfl rfl rfl rfl (.assignX rfl) ?_
        refine RunT.nil ?_
        obtain rfl := si H
        refine T.sub (sub_to (st' := ⟨[(6, .own 0 0 0), (7, .v (.bool false))], [(0, some (.arr false 1 (List.map eI [])))], 8, []⟩) [none] (by decide) rfl rfl (⟨⟨_, rfl, .one .nilO⟩, ⟨⟨_, rfl, .one .v⟩, trivial⟩⟩) (⟨⟨rfl, .inr ⟨rfl, false, _, rfl, (by decide)⟩⟩, trivial⟩)) ?_
        refine T.ret ?_
        exact RetOk.same [.own 0 0 0, .v (.bool false)] ⟨rfl, rfl, trivial⟩ rfl rfl rfl
      · replace H := cf H c9
        refine T.skip ?_
        refine T.seq ?_
        refine T.region ?_
        refine RunT.ot0 (x := .own 16 0 ((List.map eI r4.1).length)) rfl rfl rfl rfl (.moveX rfl) ?_
        refine RunT.ot0 (x := .own 16 0 ((List.map eI r4.1).length)) rfl rfl rfl rfl (.assignX rfl) ?_
        refine RunT.ot0 (x := .v (.bool true)) rfl rfl rfl rfl (.assignX rfl) ?_
        refine RunT.nil ?_
        obtain rfl := si H
        refine T.sub (sub_to (st' := ⟨[(6, .own 0 0 ((List.map eI r4.1).length)), (7, .v (.bool true))], [(0, some (.arr false 1 (List.map eI r4.1)))], 8, []⟩) [some 16] (by decide) rfl rfl (⟨⟨_, rfl, .one (.own' rfl ((List.length_map _).trans (List.length_map _).symm))⟩, ⟨⟨_, rfl, .one .v⟩, trivial⟩⟩) (⟨⟨rfl, .inl ⟨_, _, rfl, rfl, .arr rfl⟩⟩, trivial⟩)) ?_
        refine T.ret ?_
        exact RetOk.same [.own 0 0 ((List.map eI r4.1).length), .v (.bool true)] ⟨rfl, rfl, trivial⟩ rfl rfl rfl
set_option maxHeartbeats 4000000 in
theorem place_Hall_All_pc (al : Bool) (k : Nat) (a0 : PlaceHall) (a1 : Party) (o : (List Int)) (H : place_Hall_All k a0 a1 = some o) : PC Try.prog al 108 [.agg [.lst (List.map eSeat a0.V.Seats), .v (.int .i64 a0.V.Gap), .v (.int .i64 a0.V.Radius), .lst (List.map eI a0.V.Kills), .lst (List.map ePole a0.V.Poles), .lst (List.map eB a0.usable)], .agg [.v (.int .i64 a1.Size), .v (.int .i64 a1.Wheels)]] (.frs 1 (List.map eI o)) := by
  unfold place_Hall_All at H
  refine PC.of_T Try.func108 rfl rfl (n := 30) rfl rfl (.inr (flat1_frs (sz := 1) fl_I)) ?_
  intro base B w0
  refine T.st (st' := ⟨[(0, .agg [.lst (List.map eSeat a0.V.Seats), .v (.int .i64 a0.V.Gap), .v (.int .i64 a0.V.Radius), .lst (List.map eI a0.V.Kills), .lst (List.map ePole a0.V.Poles), .lst (List.map eB a0.usable)]), (1, .agg [.v (.int .i64 a1.Size), .v (.int .i64 a1.Wheels)])], [], 0, []⟩) rfl ?_
  refine T.seq ?_
  refine T.region ?_
  refine RunT.ot1 (x := .ptr 0 0) (p0 := (0, some (.box [.lst (List.map eSeat a0.V.Seats), .v (.int .i64 a0.V.Gap), .v (.int .i64 a0.V.Radius), .lst (List.map eI a0.V.Kills), .lst (List.map ePole a0.V.Poles), .lst (List.map eB a0.usable)]))) (n' := 8) rfl rfl rfl rfl (.boxX rfl rfl rfl) rfl ?_
  refine RunT.ot1 (x := .ptr 8 0) (p0 := (8, some (.box [.v (.int .i64 a1.Size), .v (.int .i64 a1.Wheels)]))) (n' := 16) rfl rfl rfl rfl (.boxX rfl rfl rfl) rfl ?_
  refine RunT.ot0 (x := .v (.slice none 0 0)) rfl rfl rfl rfl (.assignX rfl) ?_
  refine RunT.nil ?_
  refine T.seq ?_
  refine T.region ?_
  refine RunT.ot0 (x := .v (.slice none 0 0)) rfl rfl rfl rfl (.assignX rfl) ?_
  refine RunT.nil ?_
  refine T.seq ?_
  refine T.seq ?_
  refine T.region ?_
  refine RunT.ot0 (x := .ptr 0 0) rfl rfl rfl rfl (.fieldPX fl115_0 rfl rfl) ?_
  refine RunT.ot0 (x := .ptr 0 0) rfl rfl rfl rfl (.fieldPX fl26_0 rfl rfl) ?_
  refine RunT.ot0 (x := .lst (List.map eSeat a0.V.Seats)) rfl rfl rfl rfl (.loadP ty22 rfl rfl rfl) ?_
  refine RunT.ot0 (x := .v (.int .i64 (a0.V.Seats.length : Int))) rfl rfl rfl rfl (.lenLm Try.underlying22 rfl rfl) ?_
  refine RunT.ot0 (x := .v (.int .i64 0)) rfl rfl rfl rfl (.moveX rfl) ?_
  refine RunT.nil ?_
  obtain ⟨o13, E14, HO15⟩ := bs H
  refine T.cutE (⟨[(5, .own 0 0 o13.length)], [(0, some (.arr false 1 (List.map eI o13)))], 8, []⟩) ?_ ?_
  · have H := E14
    refine T.block ?_
    refine T.loopS (fun n s => ∃ (v16 : (List Int)) (v17 : Int), place_Hall_All_l0 k a0 a1 n v16 v17 = some o13 ∧ s = ⟨[(2, .ptr 0 0), (3, .ptr 1 0), (5, .own 2 0 v16.length), (12, .v (.int .i64 (a0.V.Seats.length : Int))), (13, .v (.int .i64 v17))], [(0, some (.box [.lst (List.map eSeat a0.V.Seats), .v (.int .i64 a0.V.Gap), .v (.int .i64 a0.V.Radius), .lst (List.map eI a0.V.Kills), .lst (List.map ePole a0.V.Poles), .lst (List.map eB a0.usable)])), (1, some (.box [.v (.int .i64 a1.Size), .v (.int .i64 a1.Wheels)])), (2, some (.arr false 1 (List.map eI v16)))], 8, []⟩) k ⟨_, ⟨[], 0, H, rfl⟩, sub_to [some 0, some 8, none] (by decide) rfl rfl (⟨⟨_, rfl, .one (.ptr rfl)⟩, ⟨⟨_, rfl, .one (.ptr rfl)⟩, ⟨⟨_, rfl, .one .nilO⟩, ⟨⟨_, rfl, .one .v⟩, ⟨⟨_, rfl, .one .v⟩, trivial⟩⟩⟩⟩⟩) (⟨⟨rfl, .inl ⟨_, _, rfl, rfl, .box ⟨.lst, .v, .v, .lst, .lst, .lst, trivial⟩⟩⟩, ⟨⟨rfl, .inl ⟨_, _, rfl, rfl, .box ⟨.v, .v, trivial⟩⟩⟩, ⟨⟨rfl, .inr ⟨rfl, false, _, rfl, (by decide)⟩⟩, trivial⟩⟩⟩)⟩ ?_
    rintro n s ⟨v16, v17, H, rfl⟩
    rcases n with _ | n
    · cases (show none = some _ from H)
    rw [place_Hall_All_l0] at H
    refine T.seq ?_
    refine T.region ?_
    refine RunT.ot0 (x := .v (.bool (decide (v17 < (a0.V.Seats.length : Int))))) rfl rfl rfl rfl (.bin rfl rfl (fun w => b_lss w) rfl) ?_
    refine RunT.nil ?_
    refine T.seq ?_
    refine T.cond2 (t := decide (v17 < (a0.V.Seats.length : Int))) rfl (fun c18 => ?_) (fun c18 => ?_)
    · replace H := ct H c18
      refine T.skip ?_
      refine T.seq ?_
      refine T.block ?_
      refine T.seq ?_
      refine T.region ?_
      refine RunT.ot0 (x := .v (.int .i64 v17)) rfl rfl rfl rfl (.moveX rfl) ?_
      refine RunT.ot0 (x := .v (.int .i64 v17)) rfl rfl rfl rfl (.assignX rfl) ?_
      refine RunT.nil ?_
      refine T.seq ?_
      refine T.region ?_
      refine RunT.ot0 (x := .agg [.lst (List.map eSeat a0.V.Seats), .v (.int .i64 a0.V.Gap), .v (.int .i64 a0.V.Radius), .lst (List.map eI a0.V.Kills), .lst (List.map ePole a0.V.Poles), .lst (List.map eB a0.usable)]) rfl rfl rfl rfl (.loadP ty115 rfl rfl rfl) ?_
      refine RunT.ot0 (x := .agg [.v (.int .i64 a1.Size), .v (.int .i64 a1.Wheels)]) rfl rfl rfl rfl (.loadP ty66 rfl rfl rfl) ?_
      refine RunT.ot0 (x := .v (.int .i64 v17)) rfl rfl rfl rfl (.moveX rfl) ?_
      obtain ⟨r19, h20, H⟩ := bs H
      refine RunT.ot0 (x := .tup [.lst (List.map eI r19.1), .v (.bool r19.2)]) rfl rfl rfl rfl (.callp (PC.frozen (place_Hall_Seats_pc false k a0 a1 v17 r19 h20)) rfl ⟨(.agg' ⟨.lst, .v, .v, .lst, .lst, .lst, trivial⟩), (.agg' ⟨.v, .v, trivial⟩), (.one .v), trivial⟩ rfl rfl rfl) ?_
      refine RunT.ot0 (x := .tup [.lst (List.map eI r19.1), .v (.bool r19.2)]) rfl rfl rfl rfl (.moveX rfl) ?_
      refine RunT.ot0 (x := .lst (List.map eI r19.1)) rfl rfl rfl rfl (.extract rfl rfl) ?_
      refine RunT.ot0 (x := .v (.bool r19.2)) rfl rfl rfl rfl (.extract rfl rfl) ?_
      refine RunT.ot0 (x := .lst (List.map eI r19.1)) rfl rfl rfl rfl (.assignX rfl) ?_
      refine RunT.ot0 (x := .v (.bool r19.2)) rfl rfl rfl rfl (.assignX rfl) ?_
      refine RunT.nil ?_
      refine T.seq ?_
      refine T.sub (sub_pick [2, 3, 5, 6, 8, 12, 13] [0, 1, 2] (st' := ⟨[(2, .ptr 0 0), (3, .ptr 1 0), (5, .own 2 0 v16.length), (6, .v (.int .i64 v17)), (8, .v (.bool r19.2)), (12, .v (.int .i64 (a0.V.Seats.length : Int))), (13, .v (.int .i64 v17))], [(0, some (.box [.lst (List.map eSeat a0.V.Seats), .v (.int .i64 a0.V.Gap), .v (.int .i64 a0.V.Radius), .lst (List.map eI a0.V.Kills), .lst (List.map ePole a0.V.Poles), .lst (List.map eB a0.usable)])), (1, some (.box [.v (.int .i64 a1.Size), .v (.int .i64 a1.Wheels)])), (2, some (.arr false 1 (List.map eI v16)))], 8, []⟩) rfl rfl rfl rfl rfl) ?_
      refine T.region ?_
      refine RunT.ot0 (x := .v (.bool r19.2)) rfl rfl rfl rfl (.moveX rfl) ?_
      refine RunT.nil ?_
      refine T.cond2 (t := r19.2) rfl (fun c21 => ?_) (fun c21 => ?_)
      · replace H := ct H c21
        refine T.region ?_
        refine RunT.ot0 (x := .own 2 0 v16.length) rfl rfl rfl rfl (.moveX rfl) ?_
        refine RunT.ot0 (x := .v (.int .i64 v17)) rfl rfl rfl rfl (.moveX rfl) ?_
        refine RunT.ot1 (x := .own 8 0 (([v17]).length)) (p0 := (8, some (.arr false 1 (List.map eI [v17])))) (n' := 16) rfl rfl rfl rfl (.bslicem (d := false) (l := [v17]) (f := eI) sl23 rfl rfl rfl enc_I rfl) rfl ?_
        obtain ⟨h22, H⟩ := gs H
        refine RunT.ot2 (x := .own 16 0 ((v16 ++ [v17]).length)) (p0 := (16, some (.arr false 1 (List.map eI (v16 ++ [v17]))))) (p1 := (2, none)) (n' := 24) rfl rfl rfl rfl (.appOn (d := false) (l := v16) (m := [v17]) (f := eI) rfl sl23 rfl rfl rfl (.ownn Try.underlying23 rfl rfl (fun h => by cases h)) rfl h22) rfl ?_
        refine RunT.ot0 (x := .own 16 0 ((v16 ++ [v17]).length)) rfl rfl rfl rfl (.assignX rfl) ?_
        refine RunT.nil ?_
        refine T.region ?_
        refine RunT.ot0 (x := .v (.int .i64 (wr (v17 + 1)))) rfl rfl rfl rfl (.bin rfl rfl (fun w => b_addw w) rfl) ?_
        refine RunT.ot0 (x := .v (.int .i64 (wr (v17 + 1)))) rfl rfl rfl rfl (.moveX rfl) ?_
        refine RunT.nil ?_
        exact ⟨n, Nat.lt_succ_self n, _, ⟨v16 ++ [v17], wr (v17 + 1), H, rfl⟩, (sub_to [some 0, some 1, some 16] (by decide) rfl rfl (⟨⟨_, rfl, .one (.ptr rfl)⟩, ⟨⟨_, rfl, .one (.ptr rfl)⟩, ⟨⟨_, rfl, .one (.own rfl)⟩, ⟨⟨_, rfl, .one .v⟩, ⟨⟨_, rfl, .one .v⟩, trivial⟩⟩⟩⟩⟩) (⟨⟨rfl, .inl ⟨_, _, rfl, rfl, .box ⟨.lst, .v, .v, .lst, .lst, .lst, trivial⟩⟩⟩, ⟨⟨rfl, .inl ⟨_, _, rfl, rfl, .box ⟨.v, .v, trivial⟩⟩⟩, ⟨⟨rfl, .inl ⟨_, _, rfl, rfl, .arr rfl⟩⟩, trivial⟩⟩⟩))⟩
      · replace H := cf H c21
        refine T.skip ?_
        refine T.region ?_
        refine RunT.ot0 (x := .v (.int .i64 (wr (v17 + 1)))) rfl rfl rfl rfl (.bin rfl rfl (fun w => b_addw w) rfl) ?_
        refine RunT.ot0 (x := .v (.int .i64 (wr (v17 + 1)))) rfl rfl rfl rfl (.moveX rfl) ?_
        refine RunT.nil ?_
        exact ⟨n, Nat.lt_succ_self n, _, ⟨v16, wr (v17 + 1), H, rfl⟩, (sub_to [some 0, some 1, some 2] (by decide) rfl rfl (⟨⟨_, rfl, .one (.ptr rfl)⟩, ⟨⟨_, rfl, .one (.ptr rfl)⟩, ⟨⟨_, rfl, .one (.own rfl)⟩, ⟨⟨_, rfl, .one .v⟩, ⟨⟨_, rfl, .one .v⟩, trivial⟩⟩⟩⟩⟩) (⟨⟨rfl, .inl ⟨_, _, rfl, rfl, .box ⟨.lst, .v, .v, .lst, .lst, .lst, trivial⟩⟩⟩, ⟨⟨rfl, .inl ⟨_, _, rfl, rfl, .box ⟨.v, .v, trivial⟩⟩⟩, ⟨⟨rfl, .inl ⟨_, _, rfl, rfl, .arr rfl⟩⟩, trivial⟩⟩⟩))⟩
    · replace H := cf H c18
      refine T.exit ?_
      obtain rfl := si H
      exact (sub_to [some 2] (by decide) rfl rfl (⟨⟨_, rfl, .one (.own rfl)⟩, trivial⟩) (⟨⟨rfl, .inl ⟨_, _, rfl, rfl, .arr rfl⟩⟩, trivial⟩))
  · intro s hS
    have H := HO15
    refine T.sub hS ?_
    refine T.seq ?_
    refine T.region ?_
    refine RunT.ot0 (x := .own 0 0 o13.length) rfl rfl rfl rfl (.moveX rfl) ?_
    refine RunT.ot0 (x := .own 0 0 o13.length) rfl rfl rfl rfl (.assignX rfl) ?_
    refine RunT.nil ?_
    obtain rfl := si H
    refine T.sub (sub_to (st' := ⟨[(4, .own 0 0 ((List.map eI o13).length))], [(0, some (.arr false 1 (List.map eI o13)))], 8, []⟩) [some 0] (by decide) rfl rfl (⟨⟨_, rfl, .one (.own' rfl (List.length_map _).symm)⟩, trivial⟩) (⟨⟨rfl, .inl ⟨_, _, rfl, rfl, .arr rfl⟩⟩, trivial⟩)) ?_
    refine T.ret ?_
    exact RetOk.same [.own 0 0 ((List.map eI o13).length)] ⟨rfl, trivial⟩ rfl rfl rfl
set_option maxHeartbeats 4000000 in
theorem place_All_pc (al : Bool) (k : Nat) (a0 : Venue) (a1 : Party) (o : (List Int)) (H : place_All k a0 a1 = some o) : PC Try.prog al 58 [.agg [.lst (List.map eSeat a0.Seats), .v (.int .i64 a0.Gap), .v (.int .i64 a0.Radius), .lst (List.map eI a0.Kills), .lst (List.map ePole a0.Poles)], .agg [.v (.int .i64 a1.Size), .v (.int .i64 a1.Wheels)]] (.frs 1 (List.map eI o)) := by
  unfold place_All at H
  refine PC.of_T Try.func58 rfl rfl (n := 17) rfl rfl (.inr (flat1_frs (sz := 1) fl_I)) ?_
  intro base B w0
  refine T.st (st' := ⟨[(0, .agg [.lst (List.map eSeat a0.Seats), .v (.int .i64 a0.Gap), .v (.int .i64 a0.Radius), .lst (List.map eI a0.Kills), .lst (List.map ePole a0.Poles)]), (1, .agg [.v (.int .i64 a1.Size), .v (.int .i64 a1.Wheels)])], [], 0, []⟩) rfl ?_
  refine T.seq ?_
  refine T.region ?_
  refine RunT.ot1 (x := .ptr 0 0) (p0 := (0, some (.box [.lst (List.map eSeat a0.Seats), .v (.int .i64 a0.Gap), .v (.int .i64 a0.Radius), .lst (List.map eI a0.Kills), .lst (List.map ePole a0.Poles)]))) (n' := 8) rfl rfl rfl rfl (.boxX rfl rfl rfl) rfl ?_
  refine RunT.ot1 (x := .ptr 8 0) (p0 := (8, some (.box [.v (.int .i64 a1.Size), .v (.int .i64 a1.Wheels)]))) (n' := 16) rfl rfl rfl rfl (.boxX rfl rfl rfl) rfl ?_
  refine RunT.ot0 (x := .v (.slice none 0 0)) rfl rfl rfl rfl (.assignX rfl) ?_
  refine RunT.nil ?_
  refine T.seq ?_
  refine T.region ?_
  refine RunT.ot0 (x := .agg [.lst (List.map eSeat a0.Seats), .v (.int .i64 a0.Gap), .v (.int .i64 a0.Radius), .lst (List.map eI a0.Kills), .lst (List.map ePole a0.Poles)]) rfl rfl rfl rfl (.loadP ty26 rfl rfl rfl) ?_
  obtain ⟨r1, h2, H⟩ := bs H
  refine RunT.ot0 (x := .tup [.agg [.lst (List.map eSeat r1.1.V.Seats), .v (.int .i64 r1.1.V.Gap), .v (.int .i64 r1.1.V.Radius), .lst (List.map eI r1.1.V.Kills), .lst (List.map ePole r1.1.V.Poles), .lst (List.map eB r1.1.usable)], .v (.bool r1.2)]) rfl rfl rfl rfl (.callp (PC.frozen (place_In_pc k a0 r1 h2)) rfl ⟨(.same rfl), trivial⟩ rfl rfl rfl) ?_
  refine RunT.ot0 (x := .tup [.agg [.lst (List.map eSeat r1.1.V.Seats), .v (.int .i64 r1.1.V.Gap), .v (.int .i64 r1.1.V.Radius), .lst (List.map eI r1.1.V.Kills), .lst (List.map ePole r1.1.V.Poles), .lst (List.map eB r1.1.usable)], .v (.bool r1.2)]) rfl rfl rfl rfl (.moveX rfl) ?_
  refine RunT.ot0 (x := .agg [.lst (List.map eSeat r1.1.V.Seats), .v (.int .i64 r1.1.V.Gap), .v (.int .i64 r1.1.V.Radius), .lst (List.map eI r1.1.V.Kills), .lst (List.map ePole r1.1.V.Poles), .lst (List.map eB r1.1.usable)]) rfl rfl rfl rfl (.extract rfl rfl) ?_
  refine RunT.ot0 (x := .v (.bool r1.2)) rfl rfl rfl rfl (.extract rfl rfl) ?_
  refine RunT.ot1 (x := .ptr 16 0) (p0 := (16, some (.box [.v (.slice none 0 0), .v (.int .i64 0), .v (.int .i64 0), .v (.slice none 0 0), .v (.slice none 0 0), .v (.slice none 0 0)]))) (n' := 24) rfl rfl rfl rfl (.allocX in115.zero rfl rfl) rfl ?_
  refine RunT.on1 (x := .junk) (p0 := (16, some (.box [.lst (List.map eSeat r1.1.V.Seats), .v (.int .i64 r1.1.V.Gap), .v (.int .i64 r1.1.V.Radius), .lst (List.map eI r1.1.V.Kills), .lst (List.map ePole r1.1.V.Poles), .lst (List.map eB r1.1.usable)]))) (n' := 32) rfl rfl rfl (.storePX ty115 rfl rfl rfl rfl rfl rfl rfl) rfl ?_
  refine RunT.ot0 (x := .v (.bool r1.2)) rfl rfl rfl rfl (.assignX rfl) ?_
  refine RunT.nil ?_
  refine T.seq ?_
  refine T.seq ?_
  refine T.region ?_
  refine RunT.ot0 (x := .v (.bool r1.2)) rfl rfl rfl rfl (.moveX rfl) ?_
  refine RunT.ot0 (x := .v (.bool (!r1.2))) rfl rfl rfl rfl (.un rfl (fun w => u_not w) rfl) ?_
  refine RunT.nil ?_
  refine T.cond2 (t := !r1.2) rfl (fun c3 => ?_) (fun c3 => ?_)
  · replace H := ct H c3
    refine T.seq ?_
    refine T.region ?_
    refine RunT.ot0 (x := .v (.slice none 0 0)) rfl rfl rfl rfl (.assignX rfl) ?_
    refine RunT.nil ?_
    obtain rfl := si H
    refine T.sub (sub_to (st' := ⟨[(4, .own 0 0 0)], [(0, some (.arr false 1 (List.map eI [])))], 8, []⟩) [none] (by decide) rfl rfl (⟨⟨_, rfl, .one .nilO⟩, trivial⟩) (⟨⟨rfl, .inr ⟨rfl, false, _, rfl, (by decide)⟩⟩, trivial⟩)) ?_
    refine T.ret ?_
    exact RetOk.same [.own 0 0 0] ⟨rfl, trivial⟩ rfl rfl rfl
  · replace H := cf H c3
    refine T.skip ?_
    refine T.seq ?_
    refine T.region ?_
    refine RunT.ot0 (x := .agg [.lst (List.map eSeat r1.1.V.Seats), .v (.int .i64 r1.1.V.Gap), .v (.int .i64 r1.1.V.Radius), .lst (List.map eI r1.1.V.Kills), .lst (List.map ePole r1.1.V.Poles), .lst (List.map eB r1.1.usable)]) rfl rfl rfl rfl (.loadP ty115 rfl rfl rfl) ?_
    refine RunT.ot0 (x := .agg [.v (.int .i64 a1.Size), .v (.int .i64 a1.Wheels)]) rfl rfl rfl rfl (.loadP ty66 rfl rfl rfl) ?_
    obtain ⟨r4, h5, H⟩ := bs H
    refine RunT.ot1 (x := .own 32 0 ((List.map eI r4).length)) (p0 := (32, some (.arr false 1 (List.map eI r4)))) (n' := 40) rfl rfl rfl rfl (.callp (place_Hall_All_pc false k r1.1 a1 r4 h5) rfl ⟨(.agg' ⟨.lst, .v, .v, .lst, .lst, .lst, trivial⟩), (.agg' ⟨.v, .v, trivial⟩), trivial⟩ rfl rfl rfl) rfl ?_
    refine RunT.ot0 (x := .own 32 0 ((List.map eI r4).length)) rfl rfl rfl rfl (.assignX rfl) ?_
    refine RunT.nil ?_
    obtain rfl := si H
    refine T.sub (sub_to (st' := ⟨[(4, .own 0 0 ((List.map eI r4).length))], [(0, some (.arr false 1 (List.map eI r4)))], 8, []⟩) [some 32] (by decide) rfl rfl (⟨⟨_, rfl, .one (.own' rfl ((List.length_map _).trans (List.length_map _).symm))⟩, trivial⟩) (⟨⟨rfl, .inl ⟨_, _, rfl, rfl, .arr rfl⟩⟩, trivial⟩)) ?_
    refine T.ret ?_
    exact RetOk.same [.own 0 0 ((List.map eI r4).length)] ⟨rfl, trivial⟩ rfl rfl rfl
set_option maxHeartbeats 4000000 in
theorem ref6_SameInts_pc (al : Bool) (k : Nat) (a0 : (List Int)) (a1 : (List Int)) (o : Bool) (H : ref6_SameInts k a0 a1 = some o) : PC Try.prog al 34 [.lst (List.map eI a0), .lst (List.map eI a1)] (.v (.bool o)) := by
  unfold ref6_SameInts at H
  refine PC.of_T Try.func34 rfl rfl (n := 26) rfl rfl (.inr rfl) ?_
  intro base B w0
  refine T.st (st' := ⟨[(0, .lst (List.map eI a0)), (1, .lst (List.map eI a1))], [], 0, []⟩) rfl ?_
  refine T.seq ?_
  refine T.region ?_
  refine RunT.ot0 (x := .v (.bool false)) rfl rfl rfl rfl (.assignX rfl) ?_
  refine RunT.nil ?_
  refine T.seq ?_
  refine T.seq ?_
  refine T.region ?_
  refine RunT.ot0 (x := .lst (List.map eI a0)) rfl rfl rfl rfl (.moveX rfl) ?_
  refine RunT.ot0 (x := .v (.int .i64 (a0.length : Int))) rfl rfl rfl rfl (.lenLm Try.underlying23 rfl rfl) ?_
  refine RunT.ot0 (x := .lst (List.map eI a1)) rfl rfl rfl rfl (.moveX rfl) ?_
  refine RunT.ot0 (x := .v (.int .i64 (a1.length : Int))) rfl rfl rfl rfl (.lenLm Try.underlying23 rfl rfl) ?_
  refine RunT.ot0 (x := .v (.bool (!decide ((a0.length : Int) = (a1.length : Int))))) rfl rfl rfl rfl (.bin rfl rfl (fun w => b_neq w) rfl) ?_
  refine RunT.nil ?_
  refine T.cond2 (t := !decide ((a0.length : Int) = (a1.length : Int))) rfl (fun c1 => ?_) (fun c1 => ?_)
  · replace H := ct H c1
    refine T.seq ?_
    refine T.region ?_
    refine RunT.ot0 (x := .v (.bool false)) rfl rfl rfl rfl (.assignX rfl) ?_
    refine RunT.nil ?_
    obtain rfl := si H
    refine T.sub (sub_to (st' := ⟨[(4, .v (.bool false))], [], 8, []⟩) [] (by decide) rfl rfl (⟨⟨_, rfl, .one .v⟩, trivial⟩) (trivial)) ?_
    refine T.ret ?_
    exact RetOk.same [.v (.bool false)] ⟨rfl, trivial⟩ rfl rfl rfl
  · replace H := cf H c1
    refine T.skip ?_
    refine T.seq ?_
    refine T.seq ?_
    refine T.region ?_
    refine RunT.ot0 (x := .v (.int .i64 0)) rfl rfl rfl rfl (.assignX rfl) ?_
    refine RunT.nil ?_
    obtain ⟨o15, E16, HO17⟩ := bs H
    refine T.cutPE (fun v18 => o15 = .go v18) (fun v18 => ⟨[], [], 8, []⟩) ?_ ?_
    · have H := E16
      refine T.block ?_
      refine T.loopS (fun n s => ∃ (v19 : Int), ref6_SameInts_l0 k a0 a1 n v19 = some o15 ∧ s = ⟨[(0, .lst (List.map eI a0)), (1, .lst (List.map eI a1)), (5, .v (.int .i64 v19))], [], 8, []⟩) k ⟨_, ⟨0, H, rfl⟩, sub_to [] (by decide) rfl rfl (⟨⟨_, rfl, .one .lst⟩, ⟨⟨_, rfl, .one .lst⟩, ⟨⟨_, rfl, .one .v⟩, trivial⟩⟩⟩) (trivial)⟩ ?_
      rintro n s ⟨v19, H, rfl⟩
      rcases n with _ | n
      · cases (show none = some _ from H)
      rw [ref6_SameInts_l0] at H
      refine T.seq ?_
      refine T.seq ?_
      refine T.region ?_
      refine RunT.ot0 (x := .v (.int .i64 v19)) rfl rfl rfl rfl (.moveX rfl) ?_
      refine RunT.ot0 (x := .lst (List.map eI a0)) rfl rfl rfl rfl (.moveX rfl) ?_
      refine RunT.ot0 (x := .v (.int .i64 (a0.length : Int))) rfl rfl rfl rfl (.lenLm Try.underlying23 rfl rfl) ?_
      refine RunT.ot0 (x := .v (.bool (decide (v19 < (a0.length : Int))))) rfl rfl rfl rfl (.bin rfl rfl (fun w => b_lss w) rfl) ?_
      refine RunT.nil ?_
      refine T.cond2 (t := decide (v19 < (a0.length : Int))) rfl (fun c20 => ?_) (fun c20 => ?_)
      · replace H := ct H c20
        refine T.skip ?_
        refine T.seq ?_
        refine T.block ?_
        refine T.seq ?_
        refine T.draw (wr := []) mixed rfl rfl ?_ rfl
        refine RunD.ot0 (x := .lst (List.map eI a0)) rfl rfl rfl rfl (.moveX rfl) rfl ?_
        refine RunD.ot0 (x := .v (.int .i64 v19)) rfl rfl rfl rfl (.moveX rfl) rfl ?_
        obtain ⟨y25, h26, H⟩ := bs H
        refine RunD.ot0 (x := .rptr [.v (.int .i64 y25)]) rfl rfl rfl rfl (.idxLX h26 enc_I sl23 rfl rfl rfl) rfl ?_
        refine RunD.ot0 (x := .v (.int .i64 y25)) rfl rfl rfl rfl (.loadR ty3 rfl rfl) rfl ?_
        refine RunD.ot0 (x := .lst (List.map eI a1)) rfl rfl rfl rfl (.moveX rfl) rfl ?_
        refine RunD.ot0 (x := .v (.int .i64 v19)) rfl rfl rfl rfl (.moveX rfl) rfl ?_
        obtain ⟨y27, h28, H⟩ := bs H
        refine RunD.ot0 (x := .rptr [.v (.int .i64 y27)]) rfl rfl rfl rfl (.idxLX h28 enc_I sl23 rfl rfl rfl) rfl ?_
        refine RunD.ot0 (x := .v (.int .i64 y27)) rfl rfl rfl rfl (.loadR ty3 rfl rfl) rfl ?_
        refine RunD.ot0 (x := .v (.bool (!decide (y25 = y27)))) rfl rfl rfl rfl (.bin rfl rfl (fun w => b_neq w) rfl) rfl ?_
        refine RunD.nil (by kernel_rfl) ⟨rfl, rfl, ?_⟩
        refine T.cond2 (t := !decide (y25 = y27)) rfl (fun c29 => ?_) (fun c29 => ?_)
        · replace H := ct H c29
          refine T.seq ?_
          refine T.sub (sub_pick [] [] (st' := ⟨[], [], 80, []⟩) rfl rfl rfl rfl rfl) ?_
          refine T.region ?_
          refine RunT.ot0 (x := .v (.bool false)) rfl rfl rfl rfl (.assignX rfl) ?_
          refine RunT.nil ?_
          obtain rfl := si H
          have HX := exr HO17
          obtain rfl := si HX
          refine T.sub (sub_to (st' := ⟨[(4, .v (.bool false))], [], 8, []⟩) [] (by decide) rfl rfl (⟨⟨_, rfl, .one .v⟩, trivial⟩) (trivial)) ?_
          refine T.ret ?_
          exact RetOk.same [.v (.bool false)] ⟨rfl, trivial⟩ rfl rfl rfl
        · replace H := cf H c29
          refine T.skip ?_
          refine T.region ?_
          refine RunT.ot0 (x := .v (.int .i64 v19)) rfl rfl rfl rfl (.moveX rfl) ?_
          refine RunT.ot0 (x := .v (.int .i64 (wr (v19 + 1)))) rfl rfl rfl rfl (.bin rfl rfl (fun w => b_addw w) rfl) ?_
          refine RunT.ot0 (x := .v (.int .i64 (wr (v19 + 1)))) rfl rfl rfl rfl (.assignX rfl) ?_
          refine RunT.nil ?_
          exact ⟨n, Nat.lt_succ_self n, _, ⟨wr (v19 + 1), H, rfl⟩, (sub_to [] (by decide) rfl rfl (⟨⟨_, rfl, .one .lst⟩, ⟨⟨_, rfl, .one .lst⟩, ⟨⟨_, rfl, .one .v⟩, trivial⟩⟩⟩) (trivial))⟩
      · replace H := cf H c20
        refine T.exit ?_
        obtain rfl := si H
        exact ⟨_, rfl, (sub_to [] (by decide) rfl rfl (trivial) (trivial))⟩
    · intro v18 s hR hS
      subst hR
      have H := exg HO17
      refine T.sub hS ?_
      refine T.seq ?_
      refine T.region ?_
      refine RunT.ot0 (x := .v (.bool true)) rfl rfl rfl rfl (.assignX rfl) ?_
      refine RunT.nil ?_
      obtain rfl := si H
      refine T.sub (sub_to (st' := ⟨[(4, .v (.bool true))], [], 8, []⟩) [] (by decide) rfl rfl (⟨⟨_, rfl, .one .v⟩, trivial⟩) (trivial)) ?_
      refine T.ret ?_
      exact RetOk.same [.v (.bool true)] ⟨rfl, trivial⟩ rfl rfl rfl
set_option maxHeartbeats 4000000 in
theorem place_Seats_pc (al : Bool) (k : Nat) (a0 : Venue) (a1 : Party) (a2 : Int) (o : (List Int) × Bool) (H : place_Seats k a0 a1 a2 = some o) : PC Try.prog al 61 [.agg [.lst (List.map eSeat a0.Seats), .v (.int .i64 a0.Gap), .v (.int .i64 a0.Radius), .lst (List.map eI a0.Kills), .lst (List.map ePole a0.Poles)], .agg [.v (.int .i64 a1.Size), .v (.int .i64 a1.Wheels)], .v (.int .i64 a2)] (.tup [.frs 1 (List.map eI o.1), .v (.bool o.2)]) := by
  unfold place_Seats at H
  refine PC.of_T Try.func61 rfl rfl (n := 23) rfl rfl (.inr (flatT_tup ⟨(flat1_frs (sz := 1) fl_I), rfl, trivial⟩)) ?_
  intro base B w0
  refine T.st (st' := ⟨[(0, .agg [.lst (List.map eSeat a0.Seats), .v (.int .i64 a0.Gap), .v (.int .i64 a0.Radius), .lst (List.map eI a0.Kills), .lst (List.map ePole a0.Poles)]), (1, .agg [.v (.int .i64 a1.Size), .v (.int .i64 a1.Wheels)]), (2, .v (.int .i64 a2))], [], 0, []⟩) rfl ?_
  refine T.seq ?_
  refine T.region ?_
  refine RunT.ot1 (x := .ptr 0 0) (p0 := (0, some (.box [.lst (List.map eSeat a0.Seats), .v (.int .i64 a0.Gap), .v (.int .i64 a0.Radius), .lst (List.map eI a0.Kills), .lst (List.map ePole a0.Poles)]))) (n' := 8) rfl rfl rfl rfl (.boxX rfl rfl rfl) rfl ?_
  refine RunT.ot1 (x := .ptr 8 0) (p0 := (8, some (.box [.v (.int .i64 a1.Size), .v (.int .i64 a1.Wheels)]))) (n' := 16) rfl rfl rfl rfl (.boxX rfl rfl rfl) rfl ?_
  refine RunT.ot0 (x := .v (.slice none 0 0)) rfl rfl rfl rfl (.assignX rfl) ?_
  refine RunT.ot0 (x := .v (.bool false)) rfl rfl rfl rfl (.assignX rfl) ?_
  refine RunT.nil ?_
  refine T.seq ?_
  refine T.region ?_
  refine RunT.ot0 (x := .agg [.lst (List.map eSeat a0.Seats), .v (.int .i64 a0.Gap), .v (.int .i64 a0.Radius), .lst (List.map eI a0.Kills), .lst (List.map ePole a0.Poles)]) rfl rfl rfl rfl (.loadP ty26 rfl rfl rfl) ?_
  obtain ⟨r1, h2, H⟩ := bs H
  refine RunT.ot0 (x := .tup [.agg [.lst (List.map eSeat r1.1.V.Seats), .v (.int .i64 r1.1.V.Gap), .v (.int .i64 r1.1.V.Radius), .lst (List.map eI r1.1.V.Kills), .lst (List.map ePole r1.1.V.Poles), .lst (List.map eB r1.1.usable)], .v (.bool r1.2)]) rfl rfl rfl rfl (.callp (PC.frozen (place_In_pc k a0 r1 h2)) rfl ⟨(.same rfl), trivial⟩ rfl rfl rfl) ?_
  refine RunT.ot0 (x := .tup [.agg [.lst (List.map eSeat r1.1.V.Seats), .v (.int .i64 r1.1.V.Gap), .v (.int .i64 r1.1.V.Radius), .lst (List.map eI r1.1.V.Kills), .lst (List.map ePole r1.1.V.Poles), .lst (List.map eB r1.1.usable)], .v (.bool r1.2)]) rfl rfl rfl rfl (.moveX rfl) ?_
  refine RunT.ot0 (x := .agg [.lst (List.map eSeat r1.1.V.Seats), .v (.int .i64 r1.1.V.Gap), .v (.int .i64 r1.1.V.Radius), .lst (List.map eI r1.1.V.Kills), .lst (List.map ePole r1.1.V.Poles), .lst (List.map eB r1.1.usable)]) rfl rfl rfl rfl (.extract rfl rfl) ?_
  refine RunT.ot0 (x := .v (.bool r1.2)) rfl rfl rfl rfl (.extract rfl rfl) ?_
  refine RunT.ot1 (x := .ptr 16 0) (p0 := (16, some (.box [.v (.slice none 0 0), .v (.int .i64 0), .v (.int .i64 0), .v (.slice none 0 0), .v (.slice none 0 0), .v (.slice none 0 0)]))) (n' := 24) rfl rfl rfl rfl (.allocX in115.zero rfl rfl) rfl ?_
  refine RunT.on1 (x := .junk) (p0 := (16, some (.box [.lst (List.map eSeat r1.1.V.Seats), .v (.int .i64 r1.1.V.Gap), .v (.int .i64 r1.1.V.Radius), .lst (List.map eI r1.1.V.Kills), .lst (List.map ePole r1.1.V.Poles), .lst (List.map eB r1.1.usable)]))) (n' := 32) rfl rfl rfl (.storePX ty115 rfl rfl rfl rfl rfl rfl rfl) rfl ?_
  refine RunT.ot0 (x := .v (.bool r1.2)) rfl rfl rfl rfl (.assignX rfl) ?_
  refine RunT.nil ?_
  refine T.seq ?_
  refine T.seq ?_
  refine T.region ?_
  refine RunT.ot0 (x := .v (.bool r1.2)) rfl rfl rfl rfl (.moveX rfl) ?_
  refine RunT.ot0 (x := .v (.bool (!r1.2))) rfl rfl rfl rfl (.un rfl (fun w => u_not w) rfl) ?_
  refine RunT.nil ?_
  refine T.cond2 (t := !r1.2) rfl (fun c3 => ?_) (fun c3 => ?_)
  · replace H := ct H c3
    refine T.seq ?_
    refine T.region ?_
    refine RunT.ot0 (x := .v (.slice none 0 0)) rfl rfl rfl rfl (.assignX rfl) ?_
    refine RunT.ot0 (x := .v (.bool false)) rfl rfl rfl rfl (.assignX rfl) ?_
    refine RunT.nil ?_
    obtain rfl := si H
    refine T.sub (sub_to (st' := ⟨[(6, .own 0 0 0), (7, .v (.bool false))], [(0, some (.arr false 1 (List.map eI [])))], 8, []⟩) [none] (by decide) rfl rfl (⟨⟨_, rfl, .one .nilO⟩, ⟨⟨_, rfl, .one .v⟩, trivial⟩⟩) (⟨⟨rfl, .inr ⟨rfl, false, _, rfl, (by decide)⟩⟩, trivial⟩)) ?_
    refine T.ret ?_
    exact RetOk.same [.own 0 0 0, .v (.bool false)] ⟨rfl, rfl, trivial⟩ rfl rfl rfl
  · replace H := cf H c3
    refine T.skip ?_
    refine T.seq ?_
    refine T.sub (sub_pick [2, 4, 8] [8, 16] (st' := ⟨[(2, .v (.int .i64 a2)), (4, .ptr 8 0), (8, .ptr 16 0)], [(8, some (.box [.v (.int .i64 a1.Size), .v (.int .i64 a1.Wheels)])), (16, some (.box [.lst (List.map eSeat r1.1.V.Seats), .v (.int .i64 r1.1.V.Gap), .v (.int .i64 r1.1.V.Radius), .lst (List.map eI r1.1.V.Kills), .lst (List.map ePole r1.1.V.Poles), .lst (List.map eB r1.1.usable)]))], 32, []⟩) rfl rfl rfl rfl rfl) ?_
    refine T.region ?_
    refine RunT.ot0 (x := .agg [.lst (List.map eSeat r1.1.V.Seats), .v (.int .i64 r1.1.V.Gap), .v (.int .i64 r1.1.V.Radius), .lst (List.map eI r1.1.V.Kills), .lst (List.map ePole r1.1.V.Poles), .lst (List.map eB r1.1.usable)]) rfl rfl rfl rfl (.loadP ty115 rfl rfl rfl) ?_
    refine RunT.ot0 (x := .agg [.v (.int .i64 a1.Size), .v (.int .i64 a1.Wheels)]) rfl rfl rfl rfl (.loadP ty66 rfl rfl rfl) ?_
    refine RunT.ot0 (x := .v (.int .i64 a2)) rfl rfl rfl rfl (.moveX rfl) ?_
    obtain ⟨r4, h5, H⟩ := bs H
    refine RunT.ot1 (x := .tup [.own 32 0 ((List.map eI r4.1).length), .v (.bool r4.2)]) (p0 := (32, some (.arr false 1 (List.map eI r4.1)))) (n' := 40) rfl rfl rfl rfl (.callp (place_Hall_Seats_pc false k r1.1 a1 a2 r4 h5) rfl ⟨(.agg' ⟨.lst, .v, .v, .lst, .lst, .lst, trivial⟩), (.agg' ⟨.v, .v, trivial⟩), (.one .v), trivial⟩ rfl rfl rfl) rfl ?_
    refine RunT.ot0 (x := .own 32 0 ((List.map eI r4.1).length)) rfl rfl rfl rfl (.extract rfl rfl) ?_
    refine RunT.ot0 (x := .v (.bool r4.2)) rfl rfl rfl rfl (.extract rfl rfl) ?_
    refine RunT.ot0 (x := .own 32 0 ((List.map eI r4.1).length)) rfl rfl rfl rfl (.assignX rfl) ?_
    refine RunT.ot0 (x := .v (.bool r4.2)) rfl rfl rfl rfl (.assignX rfl) ?_
    refine RunT.nil ?_
    obtain rfl := si H
    refine T.sub (sub_to (st' := ⟨[(6, .own 0 0 ((List.map eI r4.1).length)), (7, .v (.bool r4.2))], [(0, some (.arr false 1 (List.map eI r4.1)))], 8, []⟩) [some 32] (by decide) rfl rfl (⟨⟨_, rfl, .one (.own' rfl ((List.length_map _).trans (List.length_map _).symm))⟩, ⟨⟨_, rfl, .one .v⟩, trivial⟩⟩) (⟨⟨rfl, .inl ⟨_, _, rfl, rfl, .arr rfl⟩⟩, trivial⟩)) ?_
    refine T.ret ?_
    exact RetOk.same [.own 0 0 ((List.map eI r4.1).length), .v (.bool r4.2)] ⟨rfl, rfl, trivial⟩ rfl rfl rfl
set_option maxHeartbeats 4000000 in
theorem place_May_pc (al : Bool) (k : Nat) (a0 : Venue) (a1 : Party) (a2 : Int) (o : Bool) (H : place_May k a0 a1 a2 = some o) : PC Try.prog al 62 [.agg [.lst (List.map eSeat a0.Seats), .v (.int .i64 a0.Gap), .v (.int .i64 a0.Radius), .lst (List.map eI a0.Kills), .lst (List.map ePole a0.Poles)], .agg [.v (.int .i64 a1.Size), .v (.int .i64 a1.Wheels)], .v (.int .i64 a2)] (.v (.bool o)) := by
  unfold place_May at H
  refine PC.of_T Try.func62 rfl rfl (n := 17) rfl rfl (.inr rfl) ?_
  intro base B w0
  refine T.st (st' := ⟨[(0, .agg [.lst (List.map eSeat a0.Seats), .v (.int .i64 a0.Gap), .v (.int .i64 a0.Radius), .lst (List.map eI a0.Kills), .lst (List.map ePole a0.Poles)]), (1, .agg [.v (.int .i64 a1.Size), .v (.int .i64 a1.Wheels)]), (2, .v (.int .i64 a2))], [], 0, []⟩) rfl ?_
  refine T.seq ?_
  refine T.region ?_
  refine RunT.ot1 (x := .ptr 0 0) (p0 := (0, some (.box [.lst (List.map eSeat a0.Seats), .v (.int .i64 a0.Gap), .v (.int .i64 a0.Radius), .lst (List.map eI a0.Kills), .lst (List.map ePole a0.Poles)]))) (n' := 8) rfl rfl rfl rfl (.boxX rfl rfl rfl) rfl ?_
  refine RunT.ot1 (x := .ptr 8 0) (p0 := (8, some (.box [.v (.int .i64 a1.Size), .v (.int .i64 a1.Wheels)]))) (n' := 16) rfl rfl rfl rfl (.boxX rfl rfl rfl) rfl ?_
  refine RunT.ot0 (x := .v (.bool false)) rfl rfl rfl rfl (.assignX rfl) ?_
  refine RunT.nil ?_
  refine T.seq ?_
  refine T.region ?_
  refine RunT.ot0 (x := .agg [.lst (List.map eSeat a0.Seats), .v (.int .i64 a0.Gap), .v (.int .i64 a0.Radius), .lst (List.map eI a0.Kills), .lst (List.map ePole a0.Poles)]) rfl rfl rfl rfl (.loadP ty26 rfl rfl rfl) ?_
  refine RunT.ot0 (x := .agg [.v (.int .i64 a1.Size), .v (.int .i64 a1.Wheels)]) rfl rfl rfl rfl (.loadP ty66 rfl rfl rfl) ?_
  refine RunT.ot0 (x := .v (.int .i64 a2)) rfl rfl rfl rfl (.moveX rfl) ?_
  obtain ⟨r1, h2, H⟩ := bs H
  refine RunT.ot0 (x := .tup [.lst (List.map eI r1.1), .v (.bool r1.2)]) rfl rfl rfl rfl (.callp (PC.frozen (place_Seats_pc false k a0 a1 a2 r1 h2)) rfl ⟨(.agg' ⟨.lst, .v, .v, .lst, .lst, trivial⟩), (.agg' ⟨.v, .v, trivial⟩), (.one .v), trivial⟩ rfl rfl rfl) ?_
  refine RunT.ot0 (x := .tup [.lst (List.map eI r1.1), .v (.bool r1.2)]) rfl rfl rfl rfl (.moveX rfl) ?_
  refine RunT.ot0 (x := .lst (List.map eI r1.1)) rfl rfl rfl rfl (.extract rfl rfl) ?_
  refine RunT.ot0 (x := .v (.bool r1.2)) rfl rfl rfl rfl (.extract rfl rfl) ?_
  refine RunT.ot0 (x := .lst (List.map eI r1.1)) rfl rfl rfl rfl (.assignX rfl) ?_
  refine RunT.ot0 (x := .v (.bool r1.2)) rfl rfl rfl rfl (.assignX rfl) ?_
  refine RunT.nil ?_
  refine T.seq ?_
  refine T.region ?_
  refine RunT.ot0 (x := .v (.bool r1.2)) rfl rfl rfl rfl (.moveX rfl) ?_
  refine RunT.ot0 (x := .v (.bool r1.2)) rfl rfl rfl rfl (.assignX rfl) ?_
  refine RunT.nil ?_
  obtain rfl := si H
  refine T.sub (sub_to (st' := ⟨[(6, .v (.bool r1.2))], [], 8, []⟩) [] (by decide) rfl rfl (⟨⟨_, rfl, .one .v⟩, trivial⟩) (trivial)) ?_
  refine T.ret ?_
  exact RetOk.same [.v (.bool r1.2)] ⟨rfl, trivial⟩ rfl rfl rfl
set_option maxHeartbeats 4000000 in
theorem place_Hall_Apart_pc (al : Bool) (k : Nat) (a0 : PlaceHall) (a1 : Party) (a2 : Int) (a3 : Party) (a4 : Int) (o : Bool) (H : place_Hall_Apart k a0 a1 a2 a3 a4 = some o) : PC Try.prog al 112 [.agg [.lst (List.map eSeat a0.V.Seats), .v (.int .i64 a0.V.Gap), .v (.int .i64 a0.V.Radius), .lst (List.map eI a0.V.Kills), .lst (List.map ePole a0.V.Poles), .lst (List.map eB a0.usable)], .agg [.v (.int .i64 a1.Size), .v (.int .i64 a1.Wheels)], .v (.int .i64 a2), .agg [.v (.int .i64 a3.Size), .v (.int .i64 a3.Wheels)], .v (.int .i64 a4)] (.v (.bool o)) := by
  unfold place_Hall_Apart at H
  refine PC.of_T Try.func112 rfl rfl (n := 52) rfl rfl (.inr rfl) ?_
  intro base B w0
  refine T.st (st' := ⟨[(0, .agg [.lst (List.map eSeat a0.V.Seats), .v (.int .i64 a0.V.Gap), .v (.int .i64 a0.V.Radius), .lst (List.map eI a0.V.Kills), .lst (List.map ePole a0.V.Poles), .lst (List.map eB a0.usable)]), (1, .agg [.v (.int .i64 a1.Size), .v (.int .i64 a1.Wheels)]), (2, .v (.int .i64 a2)), (3, .agg [.v (.int .i64 a3.Size), .v (.int .i64 a3.Wheels)]), (4, .v (.int .i64 a4))], [], 0, []⟩) rfl ?_
  refine T.seq ?_
  refine T.region ?_
  refine RunT.ot1 (x := .ptr 0 0) (p0 := (0, some (.box [.lst (List.map eSeat a0.V.Seats), .v (.int .i64 a0.V.Gap), .v (.int .i64 a0.V.Radius), .lst (List.map eI a0.V.Kills), .lst (List.map ePole a0.V.Poles), .lst (List.map eB a0.usable)]))) (n' := 8) rfl rfl rfl rfl (.boxX rfl rfl rfl) rfl ?_
  refine RunT.ot1 (x := .ptr 8 0) (p0 := (8, some (.box [.v (.int .i64 a1.Size), .v (.int .i64 a1.Wheels)]))) (n' := 16) rfl rfl rfl rfl (.boxX rfl rfl rfl) rfl ?_
  refine RunT.ot1 (x := .ptr 16 0) (p0 := (16, some (.box [.v (.int .i64 a3.Size), .v (.int .i64 a3.Wheels)]))) (n' := 24) rfl rfl rfl rfl (.boxX rfl rfl rfl) rfl ?_
  refine RunT.ot0 (x := .v (.bool false)) rfl rfl rfl rfl (.assignX rfl) ?_
  refine RunT.nil ?_
  refine T.seq ?_
  refine T.seq ?_
  refine T.region ?_
  refine RunT.ot0 (x := .v (.int .i64 a2)) rfl rfl rfl rfl (.moveX rfl) ?_
  refine RunT.ot0 (x := .v (.int .i64 a2)) rfl rfl rfl rfl (.assignX rfl) ?_
  refine RunT.nil ?_
  obtain ⟨o70, E71, HO72⟩ := bs H
  refine T.cutPE (fun v73 => o70 = .go v73) (fun v73 => ⟨[], [], 8, []⟩) ?_ ?_
  · have H := E71
    refine T.block ?_
    refine T.loopS (fun n s => ∃ (v74 : Int), place_Hall_Apart_l2 k a0 a1 a2 a3 a4 n v74 = some o70 ∧ s = ⟨[(2, .v (.int .i64 a2)), (4, .v (.int .i64 a4)), (5, .ptr 0 0), (6, .ptr 1 0), (8, .ptr 2 0), (11, .v (.int .i64 v74))], [(0, some (.box [.lst (List.map eSeat a0.V.Seats), .v (.int .i64 a0.V.Gap), .v (.int .i64 a0.V.Radius), .lst (List.map eI a0.V.Kills), .lst (List.map ePole a0.V.Poles), .lst (List.map eB a0.usable)])), (1, some (.box [.v (.int .i64 a1.Size), .v (.int .i64 a1.Wheels)])), (2, some (.box [.v (.int .i64 a3.Size), .v (.int .i64 a3.Wheels)]))], 8, []⟩) k ⟨_, ⟨a2, H, rfl⟩, sub_to [some 0, some 8, some 16] (by decide) rfl rfl (⟨⟨_, rfl, .one .v⟩, ⟨⟨_, rfl, .one .v⟩, ⟨⟨_, rfl, .one (.ptr rfl)⟩, ⟨⟨_, rfl, .one (.ptr rfl)⟩, ⟨⟨_, rfl, .one (.ptr rfl)⟩, ⟨⟨_, rfl, .one .v⟩, trivial⟩⟩⟩⟩⟩⟩) (⟨⟨rfl, .inl ⟨_, _, rfl, rfl, .box ⟨.lst, .v, .v, .lst, .lst, .lst, trivial⟩⟩⟩, ⟨⟨rfl, .inl ⟨_, _, rfl, rfl, .box ⟨.v, .v, trivial⟩⟩⟩, ⟨⟨rfl, .inl ⟨_, _, rfl, rfl, .box ⟨.v, .v, trivial⟩⟩⟩, trivial⟩⟩⟩)⟩ ?_
    rintro n s ⟨v74, H, rfl⟩
    rcases n with _ | n
    · cases (show none = some _ from H)
    rw [place_Hall_Apart_l2] at H
    refine T.seq ?_
    refine T.seq ?_
    refine T.region ?_
    refine RunT.ot0 (x := .v (.int .i64 v74)) rfl rfl rfl rfl (.moveX rfl) ?_
    refine RunT.ot0 (x := .v (.int .i64 a2)) rfl rfl rfl rfl (.moveX rfl) ?_
    refine RunT.ot0 (x := .ptr 1 0) rfl rfl rfl rfl (.fieldPX fl66_0 rfl rfl) ?_
    refine RunT.ot0 (x := .v (.int .i64 a1.Size)) rfl rfl rfl rfl (.loadP ty3 rfl rfl rfl) ?_
    refine RunT.ot0 (x := .v (.int .i64 (wr (a2 + a1.Size)))) rfl rfl rfl rfl (.bin rfl rfl (fun w => b_addw w) rfl) ?_
    refine RunT.ot0 (x := .v (.bool (decide (v74 < (wr (a2 + a1.Size)))))) rfl rfl rfl rfl (.bin rfl rfl (fun w => b_lss w) rfl) ?_
    refine RunT.nil ?_
    refine T.cond2 (t := decide (v74 < (wr (a2 + a1.Size)))) rfl (fun c75 => ?_) (fun c75 => ?_)
    · replace H := ct H c75
      refine T.skip ?_
      refine T.seq ?_
      refine T.block ?_
      refine T.seq ?_
      refine T.region ?_
      refine RunT.ot0 (x := .v (.int .i64 a4)) rfl rfl rfl rfl (.moveX rfl) ?_
      refine RunT.ot0 (x := .v (.int .i64 a4)) rfl rfl rfl rfl (.assignX rfl) ?_
      refine RunT.nil ?_
      obtain ⟨o95, E96, HO97⟩ := bs H
      refine T.cutPE (fun v98 => o95 = .go v98) (fun v98 => ⟨[(2, .v (.int .i64 a2)), (4, .v (.int .i64 a4)), (5, .ptr 0 0), (6, .ptr 1 0), (8, .ptr 2 0), (11, .v (.int .i64 v74))], [(0, some (.box [.lst (List.map eSeat a0.V.Seats), .v (.int .i64 a0.V.Gap), .v (.int .i64 a0.V.Radius), .lst (List.map eI a0.V.Kills), .lst (List.map ePole a0.V.Poles), .lst (List.map eB a0.usable)])), (1, some (.box [.v (.int .i64 a1.Size), .v (.int .i64 a1.Wheels)])), (2, some (.box [.v (.int .i64 a3.Size), .v (.int .i64 a3.Wheels)]))], 8, []⟩) ?_ ?_
      · have H := E96
        refine T.block ?_
        refine T.loopS (fun n s => ∃ (v99 : Int), place_Hall_Apart_l3 k a0 a3 a4 v74 n v99 = some o95 ∧ s = ⟨[(2, .v (.int .i64 a2)), (4, .v (.int .i64 a4)), (5, .ptr 0 0), (6, .ptr 1 0), (8, .ptr 2 0), (11, .v (.int .i64 v74)), (12, .v (.int .i64 v99))], [(0, some (.box [.lst (List.map eSeat a0.V.Seats), .v (.int .i64 a0.V.Gap), .v (.int .i64 a0.V.Radius), .lst (List.map eI a0.V.Kills), .lst (List.map ePole a0.V.Poles), .lst (List.map eB a0.usable)])), (1, some (.box [.v (.int .i64 a1.Size), .v (.int .i64 a1.Wheels)])), (2, some (.box [.v (.int .i64 a3.Size), .v (.int .i64 a3.Wheels)]))], 8, []⟩) k ⟨_, ⟨a4, H, rfl⟩, sub_to [some 0, some 1, some 2] (by decide) rfl rfl (⟨⟨_, rfl, .one .v⟩, ⟨⟨_, rfl, .one .v⟩, ⟨⟨_, rfl, .one (.ptr rfl)⟩, ⟨⟨_, rfl, .one (.ptr rfl)⟩, ⟨⟨_, rfl, .one (.ptr rfl)⟩, ⟨⟨_, rfl, .one .v⟩, ⟨⟨_, rfl, .one .v⟩, trivial⟩⟩⟩⟩⟩⟩⟩) (⟨⟨rfl, .inl ⟨_, _, rfl, rfl, .box ⟨.lst, .v, .v, .lst, .lst, .lst, trivial⟩⟩⟩, ⟨⟨rfl, .inl ⟨_, _, rfl, rfl, .box ⟨.v, .v, trivial⟩⟩⟩, ⟨⟨rfl, .inl ⟨_, _, rfl, rfl, .box ⟨.v, .v, trivial⟩⟩⟩, trivial⟩⟩⟩)⟩ ?_
        rintro n s ⟨v99, H, rfl⟩
        rcases n with _ | n
        · cases (show none = some _ from H)
        rw [place_Hall_Apart_l3] at H
        refine T.seq ?_
        refine T.seq ?_
        refine T.region ?_
        refine RunT.ot0 (x := .v (.int .i64 v99)) rfl rfl rfl rfl (.moveX rfl) ?_
        refine RunT.ot0 (x := .v (.int .i64 a4)) rfl rfl rfl rfl (.moveX rfl) ?_
        refine RunT.ot0 (x := .ptr 2 0) rfl rfl rfl rfl (.fieldPX fl66_0 rfl rfl) ?_
        refine RunT.ot0 (x := .v (.int .i64 a3.Size)) rfl rfl rfl rfl (.loadP ty3 rfl rfl rfl) ?_
        refine RunT.ot0 (x := .v (.int .i64 (wr (a4 + a3.Size)))) rfl rfl rfl rfl (.bin rfl rfl (fun w => b_addw w) rfl) ?_
        refine RunT.ot0 (x := .v (.bool (decide (v99 < (wr (a4 + a3.Size)))))) rfl rfl rfl rfl (.bin rfl rfl (fun w => b_lss w) rfl) ?_
        refine RunT.nil ?_
        refine T.cond2 (t := decide (v99 < (wr (a4 + a3.Size)))) rfl (fun c100 => ?_) (fun c100 => ?_)
        · replace H := ct H c100
          refine T.skip ?_
          refine T.seq ?_
          refine T.block ?_
          refine T.seq ?_
          refine T.draw (wr := []) mixed rfl rfl ?_ rfl
          refine RunD.ot0 (x := .v (.int .i64 v74)) rfl rfl rfl rfl (.moveX rfl) rfl ?_
          refine RunD.ot0 (x := .v (.int .i64 v99)) rfl rfl rfl rfl (.moveX rfl) rfl ?_
          refine RunD.ot0 (x := .v (.bool (decide (v74 = v99)))) rfl rfl rfl rfl (.bin rfl rfl (fun w => b_eql w) rfl) rfl ?_
          refine RunD.ot0 (x := .v (.bool (decide (v74 = v99)))) rfl rfl rfl rfl (.moveX rfl) rfl ?_
          refine RunD.cases (t := 34) (c := decide (v74 = v99)) rfl (fun g108 => ?_) (fun g108 => ?_)
          · replace H := ct H g108
            refine RunD.xn rfl rfl rfl (bo g108) rfl rfl ?_
            refine RunD.xn rfl rfl rfl (bo g108) rfl rfl ?_
            refine RunD.xn rfl rfl rfl (bo g108) rfl rfl ?_
            refine RunD.xn rfl rfl rfl (bo g108) rfl rfl ?_
            refine RunD.xn rfl rfl rfl (bo g108) rfl rfl ?_
            refine RunD.xn rfl rfl rfl (bo g108) rfl rfl ?_
            refine RunD.xn rfl rfl rfl (bo g108) rfl rfl ?_
            refine RunD.xn rfl rfl rfl (bo g108) rfl rfl ?_
            refine RunD.xn rfl rfl rfl (bo g108) rfl rfl ?_
            refine RunD.xn rfl rfl rfl (bo g108) rfl rfl ?_
            refine RunD.xn rfl rfl rfl (bo g108) rfl rfl ?_
            refine RunD.xn rfl rfl rfl (bo g108) rfl rfl ?_
            refine RunD.xn rfl rfl rfl (bo g108) rfl rfl ?_
            refine RunD.xn rfl rfl rfl (bo g108) rfl rfl ?_
            refine RunD.xn rfl rfl rfl (bo g108) rfl rfl ?_
            refine RunD.xn rfl rfl rfl (bo g108) rfl rfl ?_
            refine RunD.ot0 (x := .v (.bool true)) rfl rfl rfl rfl (.pickT (bo g108) rfl) rfl ?_
            refine RunD.nil (by kernel_rfl) ⟨rfl, rfl, ?_⟩
            refine T.condT rfl ?_
            refine T.seq ?_
            refine T.sub (sub_pick [] [] (st' := ⟨[], [], 176, []⟩) rfl rfl rfl rfl rfl) ?_
            refine T.region ?_
            refine RunT.ot0 (x := .v (.bool false)) rfl rfl rfl rfl (.assignX rfl) ?_
            refine RunT.nil ?_
            obtain rfl := si H
            have HX := exr HO97
            obtain rfl := si HX
            have HX := exr HO72
            obtain rfl := si HX
            refine T.sub (sub_to (st' := ⟨[(10, .v (.bool false))], [], 8, []⟩) [] (by decide) rfl rfl (⟨⟨_, rfl, .one .v⟩, trivial⟩) (trivial)) ?_
            refine T.ret ?_
            exact RetOk.same [.v (.bool false)] ⟨rfl, trivial⟩ rfl rfl rfl
          · replace H := cf H g108
            refine RunD.gt0 (x := .ptr 0 0) rfl rfl rfl (bo g108) rfl rfl (.fieldPX fl115_0 rfl rfl) rfl ?_
            refine RunD.gt0 (x := .ptr 0 0) rfl rfl rfl (bo g108) rfl rfl (.fieldPX fl26_0 rfl rfl) rfl ?_
            refine RunD.gt0 (x := .lst (List.map eSeat a0.V.Seats)) rfl rfl rfl (bo g108) rfl rfl (.loadP ty22 rfl rfl rfl) rfl ?_
            refine RunD.gt0 (x := .v (.int .i64 v74)) rfl rfl rfl (bo g108) rfl rfl (.moveX rfl) rfl ?_
            obtain ⟨y109, h110, H⟩ := bs H
            refine RunD.gt0 (x := .rptr [.v (.int .i64 y109.Row), .v (.int .i64 y109.X), .v (.int .i64 y109.Y), .v (.int .i64 y109.Kind)]) rfl rfl rfl (bo g108) rfl rfl (.idxLX h110 enc_Seat sl22 rfl rfl rfl) rfl ?_
            refine RunD.gt0 (x := .agg [.v (.int .i64 y109.Row), .v (.int .i64 y109.X), .v (.int .i64 y109.Y), .v (.int .i64 y109.Kind)]) rfl rfl rfl (bo g108) rfl rfl (.loadR ty28 rfl rfl) rfl ?_
            refine RunD.gt0 (x := .ptr 0 0) rfl rfl rfl (bo g108) rfl rfl (.fieldPX fl115_0 rfl rfl) rfl ?_
            refine RunD.gt0 (x := .ptr 0 0) rfl rfl rfl (bo g108) rfl rfl (.fieldPX fl26_0 rfl rfl) rfl ?_
            refine RunD.gt0 (x := .lst (List.map eSeat a0.V.Seats)) rfl rfl rfl (bo g108) rfl rfl (.loadP ty22 rfl rfl rfl) rfl ?_
            refine RunD.gt0 (x := .v (.int .i64 v99)) rfl rfl rfl (bo g108) rfl rfl (.moveX rfl) rfl ?_
            obtain ⟨y111, h112, H⟩ := bs H
            refine RunD.gt0 (x := .rptr [.v (.int .i64 y111.Row), .v (.int .i64 y111.X), .v (.int .i64 y111.Y), .v (.int .i64 y111.Kind)]) rfl rfl rfl (bo g108) rfl rfl (.idxLX h112 enc_Seat sl22 rfl rfl rfl) rfl ?_
            refine RunD.gt0 (x := .agg [.v (.int .i64 y111.Row), .v (.int .i64 y111.X), .v (.int .i64 y111.Y), .v (.int .i64 y111.Kind)]) rfl rfl rfl (bo g108) rfl rfl (.loadR ty28 rfl rfl) rfl ?_
            refine RunD.gt0 (x := .ptr 0 0) rfl rfl rfl (bo g108) rfl rfl (.fieldPX fl115_0 rfl rfl) rfl ?_
            refine RunD.gt0 (x := .ptr 0 2) rfl rfl rfl (bo g108) rfl rfl (.fieldPX fl26_2 rfl rfl) rfl ?_
            refine RunD.gt0 (x := .v (.int .i64 a0.V.Radius)) rfl rfl rfl (bo g108) rfl rfl (.loadP ty3 rfl rfl rfl) rfl ?_
            obtain ⟨r113, h114, H⟩ := bs H
            refine RunD.gt0 (x := .v (.bool r113)) rfl rfl rfl (bo g108) rfl rfl (.callp (geom_Close_pc false k y109 y111 a0.V.Radius r113 h114) rfl ⟨(.agg' ⟨.v, .v, .v, .v, trivial⟩), (.agg' ⟨.v, .v, .v, .v, trivial⟩), (.one .v), trivial⟩ rfl rfl rfl) rfl ?_
            refine RunD.ot0 (x := .v (.bool r113)) rfl rfl rfl rfl (.pickF (bo g108) rfl) rfl ?_
            refine RunD.nil (by kernel_rfl) ⟨rfl, rfl, ?_⟩
            refine T.cond2 (t := r113) rfl (fun c115 => ?_) (fun c115 => ?_)
            · replace H := ct H c115
              refine T.seq ?_
              refine T.sub (sub_pick [] [] (st' := ⟨[], [], 176, []⟩) rfl rfl rfl rfl rfl) ?_
              refine T.region ?_
              refine RunT.ot0 (x := .v (.bool false)) rfl rfl rfl rfl (.assignX rfl) ?_
              refine RunT.nil ?_
              obtain rfl := si H
              have HX := exr HO97
              obtain rfl := si HX
              have HX := exr HO72
              obtain rfl := si HX
              refine T.sub (sub_to (st' := ⟨[(10, .v (.bool false))], [], 8, []⟩) [] (by decide) rfl rfl (⟨⟨_, rfl, .one .v⟩, trivial⟩) (trivial)) ?_
              refine T.ret ?_
              exact RetOk.same [.v (.bool false)] ⟨rfl, trivial⟩ rfl rfl rfl
            · replace H := cf H c115
              refine T.skip ?_
              refine T.region ?_
              refine RunT.ot0 (x := .v (.int .i64 v99)) rfl rfl rfl rfl (.moveX rfl) ?_
              refine RunT.ot0 (x := .v (.int .i64 (wr (v99 + 1)))) rfl rfl rfl rfl (.bin rfl rfl (fun w => b_addw w) rfl) ?_
              refine RunT.ot0 (x := .v (.int .i64 (wr (v99 + 1)))) rfl rfl rfl rfl (.assignX rfl) ?_
              refine RunT.nil ?_
              exact ⟨n, Nat.lt_succ_self n, _, ⟨wr (v99 + 1), H, rfl⟩, (sub_to [some 0, some 1, some 2] (by decide) rfl rfl (⟨⟨_, rfl, .one .v⟩, ⟨⟨_, rfl, .one .v⟩, ⟨⟨_, rfl, .one (.ptr rfl)⟩, ⟨⟨_, rfl, .one (.ptr rfl)⟩, ⟨⟨_, rfl, .one (.ptr rfl)⟩, ⟨⟨_, rfl, .one .v⟩, ⟨⟨_, rfl, .one .v⟩, trivial⟩⟩⟩⟩⟩⟩⟩) (⟨⟨rfl, .inl ⟨_, _, rfl, rfl, .box ⟨.lst, .v, .v, .lst, .lst, .lst, trivial⟩⟩⟩, ⟨⟨rfl, .inl ⟨_, _, rfl, rfl, .box ⟨.v, .v, trivial⟩⟩⟩, ⟨⟨rfl, .inl ⟨_, _, rfl, rfl, .box ⟨.v, .v, trivial⟩⟩⟩, trivial⟩⟩⟩))⟩
        · replace H := cf H c100
          refine T.exit ?_
          obtain rfl := si H
          exact ⟨_, rfl, (sub_to [some 0, some 1, some 2] (by decide) rfl rfl (⟨⟨_, rfl, .one .v⟩, ⟨⟨_, rfl, .one .v⟩, ⟨⟨_, rfl, .one (.ptr rfl)⟩, ⟨⟨_, rfl, .one (.ptr rfl)⟩, ⟨⟨_, rfl, .one (.ptr rfl)⟩, ⟨⟨_, rfl, .one .v⟩, trivial⟩⟩⟩⟩⟩⟩) (⟨⟨rfl, .inl ⟨_, _, rfl, rfl, .box ⟨.lst, .v, .v, .lst, .lst, .lst, trivial⟩⟩⟩, ⟨⟨rfl, .inl ⟨_, _, rfl, rfl, .box ⟨.v, .v, trivial⟩⟩⟩, ⟨⟨rfl, .inl ⟨_, _, rfl, rfl, .box ⟨.v, .v, trivial⟩⟩⟩, trivial⟩⟩⟩))⟩
      · intro v98 s hR hS
        subst hR
        have H := exg HO97
        refine T.sub hS ?_
        refine T.region ?_
        refine RunT.ot0 (x := .v (.int .i64 v74)) rfl rfl rfl rfl (.moveX rfl) ?_
        refine RunT.ot0 (x := .v (.int .i64 (wr (v74 + 1)))) rfl rfl rfl rfl (.bin rfl rfl (fun w => b_addw w) rfl) ?_
        refine RunT.ot0 (x := .v (.int .i64 (wr (v74 + 1)))) rfl rfl rfl rfl (.assignX rfl) ?_
        refine RunT.nil ?_
        exact ⟨n, Nat.lt_succ_self n, _, ⟨wr (v74 + 1), H, rfl⟩, (sub_to [some 0, some 1, some 2] (by decide) rfl rfl (⟨⟨_, rfl, .one .v⟩, ⟨⟨_, rfl, .one .v⟩, ⟨⟨_, rfl, .one (.ptr rfl)⟩, ⟨⟨_, rfl, .one (.ptr rfl)⟩, ⟨⟨_, rfl, .one (.ptr rfl)⟩, ⟨⟨_, rfl, .one .v⟩, trivial⟩⟩⟩⟩⟩⟩) (⟨⟨rfl, .inl ⟨_, _, rfl, rfl, .box ⟨.lst, .v, .v, .lst, .lst, .lst, trivial⟩⟩⟩, ⟨⟨rfl, .inl ⟨_, _, rfl, rfl, .box ⟨.v, .v, trivial⟩⟩⟩, ⟨⟨rfl, .inl ⟨_, _, rfl, rfl, .box ⟨.v, .v, trivial⟩⟩⟩, trivial⟩⟩⟩))⟩
    · replace H := cf H c75
      refine T.exit ?_
      obtain rfl := si H
      exact ⟨_, rfl, (sub_to [] (by decide) rfl rfl (trivial) (trivial))⟩
  · intro v73 s hR hS
    subst hR
    have H := exg HO72
    refine T.sub hS ?_
    refine T.seq ?_
    refine T.region ?_
    refine RunT.ot0 (x := .v (.bool true)) rfl rfl rfl rfl (.assignX rfl) ?_
    refine RunT.nil ?_
    obtain rfl := si H
    refine T.sub (sub_to (st' := ⟨[(10, .v (.bool true))], [], 8, []⟩) [] (by decide) rfl rfl (⟨⟨_, rfl, .one .v⟩, trivial⟩) (trivial)) ?_
    refine T.ret ?_
    exact RetOk.same [.v (.bool true)] ⟨rfl, trivial⟩ rfl rfl rfl
set_option maxHeartbeats 4000000 in
theorem place_Apart_pc (al : Bool) (k : Nat) (a0 : Venue) (a1 : Party) (a2 : Int) (a3 : Party) (a4 : Int) (o : Bool) (H : place_Apart k a0 a1 a2 a3 a4 = some o) : PC Try.prog al 63 [.agg [.lst (List.map eSeat a0.Seats), .v (.int .i64 a0.Gap), .v (.int .i64 a0.Radius), .lst (List.map eI a0.Kills), .lst (List.map ePole a0.Poles)], .agg [.v (.int .i64 a1.Size), .v (.int .i64 a1.Wheels)], .v (.int .i64 a2), .agg [.v (.int .i64 a3.Size), .v (.int .i64 a3.Wheels)], .v (.int .i64 a4)] (.v (.bool o)) := by
  unfold place_Apart at H
  refine PC.of_T Try.func63 rfl rfl (n := 50) rfl rfl (.inr rfl) ?_
  intro base B w0
  refine T.st (st' := ⟨[(0, .agg [.lst (List.map eSeat a0.Seats), .v (.int .i64 a0.Gap), .v (.int .i64 a0.Radius), .lst (List.map eI a0.Kills), .lst (List.map ePole a0.Poles)]), (1, .agg [.v (.int .i64 a1.Size), .v (.int .i64 a1.Wheels)]), (2, .v (.int .i64 a2)), (3, .agg [.v (.int .i64 a3.Size), .v (.int .i64 a3.Wheels)]), (4, .v (.int .i64 a4))], [], 0, []⟩) rfl ?_
  refine T.seq ?_
  refine T.region ?_
  refine RunT.ot1 (x := .ptr 0 0) (p0 := (0, some (.box [.lst (List.map eSeat a0.Seats), .v (.int .i64 a0.Gap), .v (.int .i64 a0.Radius), .lst (List.map eI a0.Kills), .lst (List.map ePole a0.Poles)]))) (n' := 8) rfl rfl rfl rfl (.boxX rfl rfl rfl) rfl ?_
  refine RunT.ot1 (x := .ptr 8 0) (p0 := (8, some (.box [.v (.int .i64 a1.Size), .v (.int .i64 a1.Wheels)]))) (n' := 16) rfl rfl rfl rfl (.boxX rfl rfl rfl) rfl ?_
  refine RunT.ot1 (x := .ptr 16 0) (p0 := (16, some (.box [.v (.int .i64 a3.Size), .v (.int .i64 a3.Wheels)]))) (n' := 24) rfl rfl rfl rfl (.boxX rfl rfl rfl) rfl ?_
  refine RunT.ot0 (x := .v (.bool false)) rfl rfl rfl rfl (.assignX rfl) ?_
  refine RunT.nil ?_
  refine T.seq ?_
  refine T.region ?_
  refine RunT.ot0 (x := .agg [.lst (List.map eSeat a0.Seats), .v (.int .i64 a0.Gap), .v (.int .i64 a0.Radius), .lst (List.map eI a0.Kills), .lst (List.map ePole a0.Poles)]) rfl rfl rfl rfl (.loadP ty26 rfl rfl rfl) ?_
  obtain ⟨r1, h2, H⟩ := bs H
  refine RunT.ot0 (x := .tup [.agg [.lst (List.map eSeat r1.1.V.Seats), .v (.int .i64 r1.1.V.Gap), .v (.int .i64 r1.1.V.Radius), .lst (List.map eI r1.1.V.Kills), .lst (List.map ePole r1.1.V.Poles), .lst (List.map eB r1.1.usable)], .v (.bool r1.2)]) rfl rfl rfl rfl (.callp (PC.frozen (place_In_pc k a0 r1 h2)) rfl ⟨(.same rfl), trivial⟩ rfl rfl rfl) ?_
  refine RunT.ot0 (x := .tup [.agg [.lst (List.map eSeat r1.1.V.Seats), .v (.int .i64 r1.1.V.Gap), .v (.int .i64 r1.1.V.Radius), .lst (List.map eI r1.1.V.Kills), .lst (List.map ePole r1.1.V.Poles), .lst (List.map eB r1.1.usable)], .v (.bool r1.2)]) rfl rfl rfl rfl (.moveX rfl) ?_
  refine RunT.ot0 (x := .agg [.lst (List.map eSeat r1.1.V.Seats), .v (.int .i64 r1.1.V.Gap), .v (.int .i64 r1.1.V.Radius), .lst (List.map eI r1.1.V.Kills), .lst (List.map ePole r1.1.V.Poles), .lst (List.map eB r1.1.usable)]) rfl rfl rfl rfl (.extract rfl rfl) ?_
  refine RunT.ot0 (x := .v (.bool r1.2)) rfl rfl rfl rfl (.extract rfl rfl) ?_
  refine RunT.ot1 (x := .ptr 24 0) (p0 := (24, some (.box [.v (.slice none 0 0), .v (.int .i64 0), .v (.int .i64 0), .v (.slice none 0 0), .v (.slice none 0 0), .v (.slice none 0 0)]))) (n' := 32) rfl rfl rfl rfl (.allocX in115.zero rfl rfl) rfl ?_
  refine RunT.on1 (x := .junk) (p0 := (24, some (.box [.lst (List.map eSeat r1.1.V.Seats), .v (.int .i64 r1.1.V.Gap), .v (.int .i64 r1.1.V.Radius), .lst (List.map eI r1.1.V.Kills), .lst (List.map ePole r1.1.V.Poles), .lst (List.map eB r1.1.usable)]))) (n' := 40) rfl rfl rfl (.storePX ty115 rfl rfl rfl rfl rfl rfl rfl) rfl ?_
  refine RunT.ot0 (x := .v (.bool r1.2)) rfl rfl rfl rfl (.assignX rfl) ?_
  refine RunT.nil ?_
  refine T.seq ?_
  refine T.seq ?_
  refine T.region ?_
  refine RunT.ot0 (x := .v (.bool r1.2)) rfl rfl rfl rfl (.moveX rfl) ?_
  refine RunT.ot0 (x := .v (.bool (!r1.2))) rfl rfl rfl rfl (.un rfl (fun w => u_not w) rfl) ?_
  refine RunT.nil ?_
  refine T.cond2 (t := !r1.2) rfl (fun c3 => ?_) (fun c3 => ?_)
  · replace H := ct H c3
    refine T.seq ?_
    refine T.region ?_
    refine RunT.ot0 (x := .v (.bool false)) rfl rfl rfl rfl (.assignX rfl) ?_
    refine RunT.nil ?_
    obtain rfl := si H
    refine T.sub (sub_to (st' := ⟨[(10, .v (.bool false))], [], 8, []⟩) [] (by decide) rfl rfl (⟨⟨_, rfl, .one .v⟩, trivial⟩) (trivial)) ?_
    refine T.ret ?_
    exact RetOk.same [.v (.bool false)] ⟨rfl, trivial⟩ rfl rfl rfl
  · replace H := cf H c3
    refine T.skip ?_
    refine T.seq ?_
    refine T.region ?_
    refine RunT.ot0 (x := .agg [.lst (List.map eSeat r1.1.V.Seats), .v (.int .i64 r1.1.V.Gap), .v (.int .i64 r1.1.V.Radius), .lst (List.map eI r1.1.V.Kills), .lst (List.map ePole r1.1.V.Poles), .lst (List.map eB r1.1.usable)]) rfl rfl rfl rfl (.loadP ty115 rfl rfl rfl) ?_
    refine RunT.ot0 (x := .agg [.v (.int .i64 a1.Size), .v (.int .i64 a1.Wheels)]) rfl rfl rfl rfl (.loadP ty66 rfl rfl rfl) ?_
    refine RunT.ot0 (x := .v (.int .i64 a2)) rfl rfl rfl rfl (.moveX rfl) ?_
    obtain ⟨r4, h5, H⟩ := bs H
    refine RunT.ot0 (x := .tup [.lst (List.map eI r4.1), .v (.bool r4.2)]) rfl rfl rfl rfl (.callp (PC.frozen (place_Hall_Seats_pc false k r1.1 a1 a2 r4 h5)) rfl ⟨(.agg' ⟨.lst, .v, .v, .lst, .lst, .lst, trivial⟩), (.agg' ⟨.v, .v, trivial⟩), (.one .v), trivial⟩ rfl rfl rfl) ?_
    refine RunT.ot0 (x := .tup [.lst (List.map eI r4.1), .v (.bool r4.2)]) rfl rfl rfl rfl (.moveX rfl) ?_
    refine RunT.ot0 (x := .lst (List.map eI r4.1)) rfl rfl rfl rfl (.extract rfl rfl) ?_
    refine RunT.ot0 (x := .v (.bool r4.2)) rfl rfl rfl rfl (.extract rfl rfl) ?_
    refine RunT.ot0 (x := .lst (List.map eI r4.1)) rfl rfl rfl rfl (.assignX rfl) ?_
    refine RunT.ot0 (x := .v (.bool r4.2)) rfl rfl rfl rfl (.assignX rfl) ?_
    refine RunT.nil ?_
    refine T.seq ?_
    refine T.sub (sub_pick [2, 4, 6, 8, 11, 14] [8, 16, 24] (st' := ⟨[(2, .v (.int .i64 a2)), (4, .v (.int .i64 a4)), (6, .ptr 8 0), (8, .ptr 16 0), (11, .ptr 24 0), (14, .v (.bool r4.2))], [(8, some (.box [.v (.int .i64 a1.Size), .v (.int .i64 a1.Wheels)])), (16, some (.box [.v (.int .i64 a3.Size), .v (.int .i64 a3.Wheels)])), (24, some (.box [.lst (List.map eSeat r1.1.V.Seats), .v (.int .i64 r1.1.V.Gap), .v (.int .i64 r1.1.V.Radius), .lst (List.map eI r1.1.V.Kills), .lst (List.map ePole r1.1.V.Poles), .lst (List.map eB r1.1.usable)]))], 40, []⟩) rfl rfl rfl rfl rfl) ?_
    refine T.region ?_
    refine RunT.ot0 (x := .agg [.lst (List.map eSeat r1.1.V.Seats), .v (.int .i64 r1.1.V.Gap), .v (.int .i64 r1.1.V.Radius), .lst (List.map eI r1.1.V.Kills), .lst (List.map ePole r1.1.V.Poles), .lst (List.map eB r1.1.usable)]) rfl rfl rfl rfl (.loadP ty115 rfl rfl rfl) ?_
    refine RunT.ot0 (x := .agg [.v (.int .i64 a3.Size), .v (.int .i64 a3.Wheels)]) rfl rfl rfl rfl (.loadP ty66 rfl rfl rfl) ?_
    refine RunT.ot0 (x := .v (.int .i64 a4)) rfl rfl rfl rfl (.moveX rfl) ?_
    obtain ⟨r6, h7, H⟩ := bs H
    refine RunT.ot0 (x := .tup [.lst (List.map eI r6.1), .v (.bool r6.2)]) rfl rfl rfl rfl (.callp (PC.frozen (place_Hall_Seats_pc false k r1.1 a3 a4 r6 h7)) rfl ⟨(.agg' ⟨.lst, .v, .v, .lst, .lst, .lst, trivial⟩), (.agg' ⟨.v, .v, trivial⟩), (.one .v), trivial⟩ rfl rfl rfl) ?_
    refine RunT.ot0 (x := .tup [.lst (List.map eI r6.1), .v (.bool r6.2)]) rfl rfl rfl rfl (.moveX rfl) ?_
    refine RunT.ot0 (x := .lst (List.map eI r6.1)) rfl rfl rfl rfl (.extract rfl rfl) ?_
    refine RunT.ot0 (x := .v (.bool r6.2)) rfl rfl rfl rfl (.extract rfl rfl) ?_
    refine RunT.ot0 (x := .lst (List.map eI r6.1)) rfl rfl rfl rfl (.assignX rfl) ?_
    refine RunT.ot0 (x := .v (.bool r6.2)) rfl rfl rfl rfl (.assignX rfl) ?_
    refine RunT.nil ?_
    refine T.seq ?_
    refine T.region ?_
    refine RunT.ot0 (x := .v (.bool r4.2)) rfl rfl rfl rfl (.moveX rfl) ?_
    refine RunT.ot0 (x := .v (.bool r4.2)) rfl rfl rfl rfl (.moveX rfl) ?_
    refine RunT.cases (t := 39) (c := r4.2) rfl (fun g8 => ?_) (fun g8 => ?_)
    · replace H := ct H g8
      refine RunT.gt0 (x := .v (.bool r6.2)) rfl rfl rfl (bo g8) rfl rfl (.moveX rfl) ?_
      refine RunT.ot0 (x := .v (.bool r6.2)) rfl rfl rfl rfl (.pickT (bo g8) rfl) ?_
      refine RunT.ot0 (x := .v (.bool r6.2)) rfl rfl rfl rfl (.moveX rfl) ?_
      refine RunT.cases (t := 42) (c := r6.2) rfl (fun g9 => ?_) (fun g9 => ?_)
      · replace H := ct H g9
        refine RunT.gt0 (x := .agg [.lst (List.map eSeat r1.1.V.Seats), .v (.int .i64 r1.1.V.Gap), .v (.int .i64 r1.1.V.Radius), .lst (List.map eI r1.1.V.Kills), .lst (List.map ePole r1.1.V.Poles), .lst (List.map eB r1.1.usable)]) rfl rfl rfl (bo g9) rfl rfl (.loadP ty115 rfl rfl rfl) ?_
        refine RunT.gt0 (x := .agg [.v (.int .i64 a1.Size), .v (.int .i64 a1.Wheels)]) rfl rfl rfl (bo g9) rfl rfl (.loadP ty66 rfl rfl rfl) ?_
        refine RunT.gt0 (x := .v (.int .i64 a2)) rfl rfl rfl (bo g9) rfl rfl (.moveX rfl) ?_
        refine RunT.gt0 (x := .agg [.v (.int .i64 a3.Size), .v (.int .i64 a3.Wheels)]) rfl rfl rfl (bo g9) rfl rfl (.loadP ty66 rfl rfl rfl) ?_
        refine RunT.gt0 (x := .v (.int .i64 a4)) rfl rfl rfl (bo g9) rfl rfl (.moveX rfl) ?_
        obtain ⟨r10, h11, H⟩ := bs H
        refine RunT.gt0 (x := .v (.bool r10)) rfl rfl rfl (bo g9) rfl rfl (.callp (place_Hall_Apart_pc false k r1.1 a1 a2 a3 a4 r10 h11) rfl ⟨(.agg' ⟨.lst, .v, .v, .lst, .lst, .lst, trivial⟩), (.agg' ⟨.v, .v, trivial⟩), (.one .v), (.agg' ⟨.v, .v, trivial⟩), (.one .v), trivial⟩ rfl rfl rfl) ?_
        refine RunT.ot0 (x := .v (.bool r10)) rfl rfl rfl rfl (.pickT (bo g9) rfl) ?_
        refine RunT.ot0 (x := .v (.bool r10)) rfl rfl rfl rfl (.assignX rfl) ?_
        refine RunT.nil ?_
        obtain rfl := si H
        refine T.sub (sub_to (st' := ⟨[(10, .v (.bool r10))], [], 8, []⟩) [] (by decide) rfl rfl (⟨⟨_, rfl, .one .v⟩, trivial⟩) (trivial)) ?_
        refine T.ret ?_
        exact RetOk.same [.v (.bool r10)] ⟨rfl, trivial⟩ rfl rfl rfl
      · replace H := cf H g9
        refine RunT.xn rfl rfl rfl (bo g9) rfl rfl ?_
        refine RunT.xn rfl rfl rfl (bo g9) rfl rfl ?_
        refine RunT.xn rfl rfl rfl (bo g9) rfl rfl ?_
        refine RunT.xn rfl rfl rfl (bo g9) rfl rfl ?_
        refine RunT.xn rfl rfl rfl (bo g9) rfl rfl ?_
        refine RunT.xn rfl rfl rfl (bo g9) rfl rfl ?_
        refine RunT.ot0 (x := .v (.bool false)) rfl rfl rfl rfl (.pickF (bo g9) rfl) ?_
        refine RunT.ot0 (x := .v (.bool false)) rfl rfl rfl rfl (.assignX rfl) ?_
        refine RunT.nil ?_
        obtain rfl := si H
        refine T.sub (sub_to (st' := ⟨[(10, .v (.bool false))], [], 8, []⟩) [] (by decide) rfl rfl (⟨⟨_, rfl, .one .v⟩, trivial⟩) (trivial)) ?_
        refine T.ret ?_
        exact RetOk.same [.v (.bool false)] ⟨rfl, trivial⟩ rfl rfl rfl
    · replace H := cf H g8
      refine RunT.xn rfl rfl rfl (bo g8) rfl rfl ?_
      refine RunT.ot0 (x := .v (.bool false)) rfl rfl rfl rfl (.pickF (bo g8) rfl) ?_
      refine RunT.ot0 (x := .v (.bool false)) rfl rfl rfl rfl (.moveX rfl) ?_
      refine RunT.xn rfl rfl rfl rfl rfl rfl ?_
      refine RunT.xn rfl rfl rfl rfl rfl rfl ?_
      refine RunT.xn rfl rfl rfl rfl rfl rfl ?_
      refine RunT.xn rfl rfl rfl rfl rfl rfl ?_
      refine RunT.xn rfl rfl rfl rfl rfl rfl ?_
      refine RunT.xn rfl rfl rfl rfl rfl rfl ?_
      refine RunT.ot0 (x := .v (.bool false)) rfl rfl rfl rfl (.pickF rfl rfl) ?_
      refine RunT.ot0 (x := .v (.bool false)) rfl rfl rfl rfl (.assignX rfl) ?_
      refine RunT.nil ?_
      obtain rfl := si H
      refine T.sub (sub_to (st' := ⟨[(10, .v (.bool false))], [], 8, []⟩) [] (by decide) rfl rfl (⟨⟨_, rfl, .one .v⟩, trivial⟩) (trivial)) ?_
      refine T.ret ?_
      exact RetOk.same [.v (.bool false)] ⟨rfl, trivial⟩ rfl rfl rfl
end Go.Proofs.Ytlfpkjlaajfjnaa
