/- The Go functions come to just what their plain forms come to: one contract each. -/
import Derived.Test.YtlfpkjlaajfjnaaYPlaceAsks1
set_option linter.unusedVariables false
set_option linter.unusedSimpArgs false
set_option maxRecDepth 100000
namespace Go.Proofs.Ytlfpkjlaajfjnaa
open Go Go.Sh Go.Px
attribute [local irreducible] Go.Sh.T Go.Sh.RunT Go.Sh.RunD
set_option maxHeartbeats 4000000 in
theorem ref2_in_pc (al : Bool) (k : Nat) (a0 : Int) (a1 : Int) (a2 : Int) (o : Bool) (H : ref2_in k a0 a1 a2 = some o) : PC Try.prog al 133 [.v (.int .i64 a0), .v (.int .i64 a1), .v (.int .i64 a2)] (.v (.bool o)) := by
  unfold ref2_in at H
  refine PC.of_T Try.func133 rfl rfl (n := 15) rfl rfl (.inr rfl) ?_
  intro base B w0
  refine T.st (st' := ⟨[(0, .v (.int .i64 a0)), (1, .v (.int .i64 a1)), (2, .v (.int .i64 a2))], [], 0, []⟩) rfl ?_
  refine T.seq ?_
  refine T.region ?_
  refine RunT.ot0 (x := .v (.bool false)) rfl rfl rfl rfl (.assignX rfl) ?_
  refine RunT.nil ?_
  refine T.seq ?_
  refine T.region ?_
  refine RunT.ot0 (x := .v (.int .i64 a0)) rfl rfl rfl rfl (.moveX rfl) ?_
  refine RunT.ot0 (x := .v (.int .i64 a1)) rfl rfl rfl rfl (.moveX rfl) ?_
  refine RunT.ot0 (x := .v (.bool (decide (a1 ≤ a0)))) rfl rfl rfl rfl (.bin rfl rfl (fun w => b_geq w) rfl) ?_
  refine RunT.ot0 (x := .v (.bool (decide (a1 ≤ a0)))) rfl rfl rfl rfl (.moveX rfl) ?_
  refine RunT.cases (t := 10) (c := decide (a1 ≤ a0)) rfl (fun g1 => ?_) (fun g1 => ?_)
  · replace H := ct H g1
    refine RunT.gt0 (x := .v (.int .i64 a0)) rfl rfl rfl (bo g1) rfl rfl (.moveX rfl) ?_
    refine RunT.gt0 (x := .v (.int .i64 a2)) rfl rfl rfl (bo g1) rfl rfl (.moveX rfl) ?_
    refine RunT.gt0 (x := .v (.bool (decide (a0 ≤ a2)))) rfl rfl rfl (bo g1) rfl rfl (.bin rfl rfl (fun w => b_leq w) rfl) ?_
    refine RunT.ot0 (x := .v (.bool (decide (a0 ≤ a2)))) rfl rfl rfl rfl (.pickT (bo g1) rfl) ?_
    refine RunT.ot0 (x := .v (.bool (decide (a0 ≤ a2)))) rfl rfl rfl rfl (.assignX rfl) ?_
    refine RunT.nil ?_
    obtain rfl := si H
    refine T.sub (sub_to (st' := ⟨[(6, .v (.bool (decide (a0 ≤ a2))))], [], 8, []⟩) [] (by decide) rfl rfl (⟨⟨_, rfl, .one .v⟩, trivial⟩) (trivial)) ?_
    refine T.ret ?_
    exact RetOk.same [.v (.bool (decide (a0 ≤ a2)))] ⟨rfl, trivial⟩ rfl rfl rfl
  · replace H := cf H g1
    refine RunT.xn rfl rfl rfl (bo g1) rfl rfl ?_
    refine RunT.xn rfl rfl rfl (bo g1) rfl rfl ?_
    refine RunT.xn rfl rfl rfl (bo g1) rfl rfl ?_
    refine RunT.ot0 (x := .v (.bool false)) rfl rfl rfl rfl (.pickF (bo g1) rfl) ?_
    refine RunT.ot0 (x := .v (.bool false)) rfl rfl rfl rfl (.assignX rfl) ?_
    refine RunT.nil ?_
    obtain rfl := si H
    refine T.sub (sub_to (st' := ⟨[(6, .v (.bool false))], [], 8, []⟩) [] (by decide) rfl rfl (⟨⟨_, rfl, .one .v⟩, trivial⟩) (trivial)) ?_
    refine T.ret ?_
    exact RetOk.same [.v (.bool false)] ⟨rfl, trivial⟩ rfl rfl rfl
set_option maxHeartbeats 4000000 in
theorem ref2_coord_pc (al : Bool) (k : Nat) (a0 : Int) (o : Bool) (H : ref2_coord k a0 = some o) : PC Try.prog al 155 [.v (.int .i64 a0)] (.v (.bool o)) := by
  unfold ref2_coord at H
  refine PC.of_T Try.func155 rfl rfl (n := 5) rfl rfl (.inr rfl) ?_
  intro base B w0
  refine T.st (st' := ⟨[(0, .v (.int .i64 a0))], [], 0, []⟩) rfl ?_
  refine T.seq ?_
  refine T.region ?_
  refine RunT.ot0 (x := .v (.bool false)) rfl rfl rfl rfl (.assignX rfl) ?_
  refine RunT.nil ?_
  refine T.seq ?_
  refine T.region ?_
  refine RunT.ot0 (x := .v (.int .i64 a0)) rfl rfl rfl rfl (.moveX rfl) ?_
  obtain ⟨r1, h2, H⟩ := bs H
  refine RunT.ot0 (x := .v (.bool r1)) rfl rfl rfl rfl (.callp (ref2_in_pc false k a0 (-1048576) 1048576 r1 h2) rfl ⟨(.one .v), (.one .v), (.one .v), trivial⟩ rfl rfl rfl) ?_
  refine RunT.ot0 (x := .v (.bool r1)) rfl rfl rfl rfl (.assignX rfl) ?_
  refine RunT.nil ?_
  obtain rfl := si H
  refine T.sub (sub_to (st' := ⟨[(2, .v (.bool r1))], [], 8, []⟩) [] (by decide) rfl rfl (⟨⟨_, rfl, .one .v⟩, trivial⟩) (trivial)) ?_
  refine T.ret ?_
  exact RetOk.same [.v (.bool r1)] ⟨rfl, trivial⟩ rfl rfl rfl
set_option maxHeartbeats 4000000 in
theorem ref2_Less_pc (al : Bool) (k : Nat) (a0 : Seat) (a1 : Seat) (o : Bool) (H : ref2_Less k a0 a1 = some o) : PC Try.prog al 156 [.agg [.v (.int .i64 a0.Row), .v (.int .i64 a0.X), .v (.int .i64 a0.Y), .v (.int .i64 a0.Kind)], .agg [.v (.int .i64 a1.Row), .v (.int .i64 a1.X), .v (.int .i64 a1.Y), .v (.int .i64 a1.Kind)]] (.v (.bool o)) := by
  unfold ref2_Less at H
  refine PC.of_T Try.func156 rfl rfl (n := 24) rfl rfl (.inr rfl) ?_
  intro base B w0
  refine T.st (st' := ⟨[(0, .agg [.v (.int .i64 a0.Row), .v (.int .i64 a0.X), .v (.int .i64 a0.Y), .v (.int .i64 a0.Kind)]), (1, .agg [.v (.int .i64 a1.Row), .v (.int .i64 a1.X), .v (.int .i64 a1.Y), .v (.int .i64 a1.Kind)])], [], 0, []⟩) rfl ?_
  refine T.seq ?_
  refine T.region ?_
  refine RunT.ot1 (x := .ptr 0 0) (p0 := (0, some (.box [.v (.int .i64 a0.Row), .v (.int .i64 a0.X), .v (.int .i64 a0.Y), .v (.int .i64 a0.Kind)]))) (n' := 8) rfl rfl rfl rfl (.boxX rfl rfl rfl) rfl ?_
  refine RunT.ot1 (x := .ptr 8 0) (p0 := (8, some (.box [.v (.int .i64 a1.Row), .v (.int .i64 a1.X), .v (.int .i64 a1.Y), .v (.int .i64 a1.Kind)]))) (n' := 16) rfl rfl rfl rfl (.boxX rfl rfl rfl) rfl ?_
  refine RunT.ot0 (x := .v (.bool false)) rfl rfl rfl rfl (.assignX rfl) ?_
  refine RunT.nil ?_
  refine T.seq ?_
  refine T.region ?_
  refine RunT.ot0 (x := .ptr 0 0) rfl rfl rfl rfl (.fieldPX fl28_0 rfl rfl) ?_
  refine RunT.ot0 (x := .v (.int .i64 a0.Row)) rfl rfl rfl rfl (.loadP ty3 rfl rfl rfl) ?_
  refine RunT.ot0 (x := .ptr 8 0) rfl rfl rfl rfl (.fieldPX fl28_0 rfl rfl) ?_
  refine RunT.ot0 (x := .v (.int .i64 a1.Row)) rfl rfl rfl rfl (.loadP ty3 rfl rfl rfl) ?_
  refine RunT.ot0 (x := .v (.bool (decide (a0.Row < a1.Row)))) rfl rfl rfl rfl (.bin rfl rfl (fun w => b_lss w) rfl) ?_
  refine RunT.ot0 (x := .v (.bool (decide (a0.Row < a1.Row)))) rfl rfl rfl rfl (.moveX rfl) ?_
  refine RunT.cases (t := 10) (c := decide (a0.Row < a1.Row)) rfl (fun g1 => ?_) (fun g1 => ?_)
  · replace H := ct H g1
    refine RunT.xn rfl rfl rfl (bo g1) rfl rfl ?_
    refine RunT.xn rfl rfl rfl (bo g1) rfl rfl ?_
    refine RunT.xn rfl rfl rfl (bo g1) rfl rfl ?_
    refine RunT.xn rfl rfl rfl (bo g1) rfl rfl ?_
    refine RunT.xn rfl rfl rfl (bo g1) rfl rfl ?_
    refine RunT.xn rfl rfl rfl (bo g1) rfl rfl ?_
    refine RunT.xu rfl rfl rfl rfl rfl rfl ?_
    refine RunT.xu rfl rfl rfl rfl rfl rfl ?_
    refine RunT.xu rfl rfl rfl rfl rfl rfl ?_
    refine RunT.xu rfl rfl rfl rfl rfl rfl ?_
    refine RunT.xu rfl rfl rfl rfl rfl rfl ?_
    refine RunT.xn rfl rfl rfl (bo g1) rfl rfl ?_
    refine RunT.ot0 (x := .v (.bool true)) rfl rfl rfl rfl (.pickT (bo g1) rfl) ?_
    refine RunT.ot0 (x := .v (.bool true)) rfl rfl rfl rfl (.assignX rfl) ?_
    refine RunT.nil ?_
    obtain rfl := si H
    refine T.sub (sub_to (st' := ⟨[(4, .v (.bool true))], [], 8, []⟩) [] (by decide) rfl rfl (⟨⟨_, rfl, .one .v⟩, trivial⟩) (trivial)) ?_
    refine T.ret ?_
    exact RetOk.same [.v (.bool true)] ⟨rfl, trivial⟩ rfl rfl rfl
  · replace H := cf H g1
    refine RunT.gt0 (x := .ptr 0 0) rfl rfl rfl (bo g1) rfl rfl (.fieldPX fl28_0 rfl rfl) ?_
    refine RunT.gt0 (x := .v (.int .i64 a0.Row)) rfl rfl rfl (bo g1) rfl rfl (.loadP ty3 rfl rfl rfl) ?_
    refine RunT.gt0 (x := .ptr 8 0) rfl rfl rfl (bo g1) rfl rfl (.fieldPX fl28_0 rfl rfl) ?_
    refine RunT.gt0 (x := .v (.int .i64 a1.Row)) rfl rfl rfl (bo g1) rfl rfl (.loadP ty3 rfl rfl rfl) ?_
    refine RunT.gt0 (x := .v (.bool (decide (a0.Row = a1.Row)))) rfl rfl rfl (bo g1) rfl rfl (.bin rfl rfl (fun w => b_eql w) rfl) ?_
    refine RunT.gt0 (x := .v (.bool (decide (a0.Row = a1.Row)))) rfl rfl rfl (bo g1) rfl rfl (.moveX rfl) ?_
    refine RunT.cases (t := 16) (c := decide (a0.Row = a1.Row)) rfl (fun g2 => ?_) (fun g2 => ?_)
    · replace H := ct H g2
      refine RunT.gt0 (x := .ptr 0 1) rfl rfl rfl (bo g2) rfl rfl (.fieldPX fl28_1 rfl rfl) ?_
      refine RunT.gt0 (x := .v (.int .i64 a0.X)) rfl rfl rfl (bo g2) rfl rfl (.loadP ty3 rfl rfl rfl) ?_
      refine RunT.gt0 (x := .ptr 8 1) rfl rfl rfl (bo g2) rfl rfl (.fieldPX fl28_1 rfl rfl) ?_
      refine RunT.gt0 (x := .v (.int .i64 a1.X)) rfl rfl rfl (bo g2) rfl rfl (.loadP ty3 rfl rfl rfl) ?_
      refine RunT.gt0 (x := .v (.bool (decide (a0.X < a1.X)))) rfl rfl rfl (bo g2) rfl rfl (.bin rfl rfl (fun w => b_lss w) rfl) ?_
      refine RunT.gt0 (x := .v (.bool (decide (a0.X < a1.X)))) rfl rfl rfl (bo g1) rfl rfl (.pickT (bo g2) rfl) ?_
      refine RunT.ot0 (x := .v (.bool (decide (a0.X < a1.X)))) rfl rfl rfl rfl (.pickF (bo g1) rfl) ?_
      refine RunT.ot0 (x := .v (.bool (decide (a0.X < a1.X)))) rfl rfl rfl rfl (.assignX rfl) ?_
      refine RunT.nil ?_
      obtain rfl := si H
      refine T.sub (sub_to (st' := ⟨[(4, .v (.bool (decide (a0.X < a1.X))))], [], 8, []⟩) [] (by decide) rfl rfl (⟨⟨_, rfl, .one .v⟩, trivial⟩) (trivial)) ?_
      refine T.ret ?_
      exact RetOk.same [.v (.bool (decide (a0.X < a1.X)))] ⟨rfl, trivial⟩ rfl rfl rfl
    · replace H := cf H g2
      refine RunT.xn rfl rfl rfl (bo g2) rfl rfl ?_
      refine RunT.xn rfl rfl rfl (bo g2) rfl rfl ?_
      refine RunT.xn rfl rfl rfl (bo g2) rfl rfl ?_
      refine RunT.xn rfl rfl rfl (bo g2) rfl rfl ?_
      refine RunT.xn rfl rfl rfl (bo g2) rfl rfl ?_
      refine RunT.gt0 (x := .v (.bool false)) rfl rfl rfl (bo g1) rfl rfl (.pickF (bo g2) rfl) ?_
      refine RunT.ot0 (x := .v (.bool false)) rfl rfl rfl rfl (.pickF (bo g1) rfl) ?_
      refine RunT.ot0 (x := .v (.bool false)) rfl rfl rfl rfl (.assignX rfl) ?_
      refine RunT.nil ?_
      obtain rfl := si H
      refine T.sub (sub_to (st' := ⟨[(4, .v (.bool false))], [], 8, []⟩) [] (by decide) rfl rfl (⟨⟨_, rfl, .one .v⟩, trivial⟩) (trivial)) ?_
      refine T.ret ?_
      exact RetOk.same [.v (.bool false)] ⟨rfl, trivial⟩ rfl rfl rfl
set_option maxHeartbeats 4000000 in
theorem ref2_seats_pc (al : Bool) (k : Nat) (a0 : (List Seat)) (o : Bool) (H : ref2_seats k a0 = some o) : PC Try.prog al 132 [.lst (List.map eSeat a0)] (.v (.bool o)) := by
  unfold ref2_seats at H
  refine PC.of_T Try.func132 rfl rfl (n := 59) rfl rfl (.inr rfl) ?_
  intro base B w0
  refine T.st (st' := ⟨[(0, .lst (List.map eSeat a0))], [], 0, []⟩) rfl ?_
  refine T.seq ?_
  refine T.region ?_
  refine RunT.ot0 (x := .v (.bool false)) rfl rfl rfl rfl (.assignX rfl) ?_
  refine RunT.nil ?_
  refine T.seq ?_
  refine T.seq ?_
  refine T.region ?_
  refine RunT.ot0 (x := .v (.int .i64 0)) rfl rfl rfl rfl (.assignX rfl) ?_
  refine RunT.nil ?_
  obtain ⟨o44, E45, HO46⟩ := bs H
  refine T.cutPE (fun v47 => o44 = .go v47) (fun v47 => ⟨[(0, .lst (List.map eSeat a0))], [], 8, []⟩) ?_ ?_
  · have H := E45
    refine T.block ?_
    refine T.loopS (fun n s => ∃ (v48 : Int), ref2_seats_l0 k a0 n v48 = some o44 ∧ s = ⟨[(0, .lst (List.map eSeat a0)), (3, .v (.int .i64 v48))], [], 8, []⟩) k ⟨_, ⟨0, H, rfl⟩, sub_to [] (by decide) rfl rfl (⟨⟨_, rfl, .one .lst⟩, ⟨⟨_, rfl, .one .v⟩, trivial⟩⟩) (trivial)⟩ ?_
    rintro n s ⟨v48, H, rfl⟩
    rcases n with _ | n
    · cases (show none = some _ from H)
    rw [ref2_seats_l0] at H
    refine T.seq ?_
    refine T.seq ?_
    refine T.region ?_
    refine RunT.ot0 (x := .v (.int .i64 v48)) rfl rfl rfl rfl (.moveX rfl) ?_
    refine RunT.ot0 (x := .lst (List.map eSeat a0)) rfl rfl rfl rfl (.moveX rfl) ?_
    refine RunT.ot0 (x := .v (.int .i64 (a0.length : Int))) rfl rfl rfl rfl (.lenLm Try.underlying22 rfl rfl) ?_
    refine RunT.ot0 (x := .v (.bool (decide (v48 < (a0.length : Int))))) rfl rfl rfl rfl (.bin rfl rfl (fun w => b_lss w) rfl) ?_
    refine RunT.nil ?_
    refine T.cond2 (t := decide (v48 < (a0.length : Int))) rfl (fun c49 => ?_) (fun c49 => ?_)
    · replace H := ct H c49
      refine T.skip ?_
      refine T.seq ?_
      refine T.block ?_
      refine T.seq ?_
      refine T.region ?_
      refine RunT.ot0 (x := .lst (List.map eSeat a0)) rfl rfl rfl rfl (.moveX rfl) ?_
      refine RunT.ot0 (x := .v (.int .i64 v48)) rfl rfl rfl rfl (.moveX rfl) ?_
      obtain ⟨y50, h51, H⟩ := bs H
      refine RunT.ot0 (x := .rptr [.v (.int .i64 y50.Row), .v (.int .i64 y50.X), .v (.int .i64 y50.Y), .v (.int .i64 y50.Kind)]) rfl rfl rfl rfl (.idxLX h51 enc_Seat sl22 rfl rfl rfl) ?_
      refine RunT.ot0 (x := .agg [.v (.int .i64 y50.Row), .v (.int .i64 y50.X), .v (.int .i64 y50.Y), .v (.int .i64 y50.Kind)]) rfl rfl rfl rfl (.loadR ty28 rfl rfl) ?_
      refine RunT.ot1 (x := .ptr 8 0) (p0 := (8, some (.box [.v (.int .i64 0), .v (.int .i64 0), .v (.int .i64 0), .v (.int .i64 0)]))) (n' := 16) rfl rfl rfl rfl (.allocX in28.zero rfl rfl) rfl ?_
      refine RunT.on1 (x := .junk) (p0 := (8, some (.box [.v (.int .i64 y50.Row), .v (.int .i64 y50.X), .v (.int .i64 y50.Y), .v (.int .i64 y50.Kind)]))) (n' := 24) rfl rfl rfl (.storePX ty28 rfl rfl rfl rfl rfl rfl rfl) rfl ?_
      refine RunT.nil ?_
      refine T.seq ?_
      refine T.draw (wr := []) mixed rfl rfl ?_ rfl
      refine RunD.ot0 (x := .ptr 8 0) rfl rfl rfl rfl (.fieldPX fl28_0 rfl rfl) rfl ?_
      refine RunD.ot0 (x := .v (.int .i64 y50.Row)) rfl rfl rfl rfl (.loadP ty3 rfl rfl rfl) rfl ?_
      obtain ⟨r69, h70, H⟩ := bs H
      refine RunD.ot0 (x := .v (.bool r69)) rfl rfl rfl rfl (.callp (ref2_in_pc false k y50.Row 0 999 r69 h70) rfl ⟨(.one .v), (.one .v), (.one .v), trivial⟩ rfl rfl rfl) rfl ?_
      refine RunD.ot0 (x := .v (.bool (!r69))) rfl rfl rfl rfl (.un rfl (fun w => u_not w) rfl) rfl ?_
      refine RunD.ot0 (x := .v (.bool (!r69))) rfl rfl rfl rfl (.moveX rfl) rfl ?_
      refine RunD.cases (t := 19) (c := !r69) rfl (fun g71 => ?_) (fun g71 => ?_)
      · replace H := ct H g71
        refine RunD.xn rfl rfl rfl (bo g71) rfl rfl ?_
        refine RunD.xn rfl rfl rfl (bo g71) rfl rfl ?_
        refine RunD.xn rfl rfl rfl (bo g71) rfl rfl ?_
        refine RunD.xn rfl rfl rfl (bo g71) rfl rfl ?_
        refine RunD.ot0 (x := .v (.bool true)) rfl rfl rfl rfl (.pickT (bo g71) rfl) rfl ?_
        refine RunD.ot0 (x := .v (.bool true)) rfl rfl rfl rfl (.moveX rfl) rfl ?_
        refine RunD.xn rfl rfl rfl rfl rfl rfl ?_
        refine RunD.xn rfl rfl rfl rfl rfl rfl ?_
        refine RunD.xn rfl rfl rfl rfl rfl rfl ?_
        refine RunD.xn rfl rfl rfl rfl rfl rfl ?_
        refine RunD.ot0 (x := .v (.bool true)) rfl rfl rfl rfl (.pickT rfl rfl) rfl ?_
        refine RunD.ot0 (x := .v (.bool true)) rfl rfl rfl rfl (.moveX rfl) rfl ?_
        refine RunD.xn rfl rfl rfl rfl rfl rfl ?_
        refine RunD.xn rfl rfl rfl rfl rfl rfl ?_
        refine RunD.xn rfl rfl rfl rfl rfl rfl ?_
        refine RunD.xn rfl rfl rfl rfl rfl rfl ?_
        refine RunD.ot0 (x := .v (.bool true)) rfl rfl rfl rfl (.pickT rfl rfl) rfl ?_
        refine RunD.ot0 (x := .v (.bool true)) rfl rfl rfl rfl (.moveX rfl) rfl ?_
        refine RunD.xn rfl rfl rfl rfl rfl rfl ?_
        refine RunD.xn rfl rfl rfl rfl rfl rfl ?_
        refine RunD.xn rfl rfl rfl rfl rfl rfl ?_
        refine RunD.xu rfl rfl rfl rfl rfl rfl ?_
        refine RunD.xu rfl rfl rfl rfl rfl rfl ?_
        refine RunD.xu rfl rfl rfl rfl rfl rfl ?_
        refine RunD.xu rfl rfl rfl rfl rfl rfl ?_
        refine RunD.xu rfl rfl rfl rfl rfl rfl ?_
        refine RunD.xu rfl rfl rfl rfl rfl rfl ?_
        refine RunD.xu rfl rfl rfl rfl rfl rfl ?_
        refine RunD.xu rfl rfl rfl rfl rfl rfl ?_
        refine RunD.xn rfl rfl rfl rfl rfl rfl ?_
        refine RunD.ot0 (x := .v (.bool true)) rfl rfl rfl rfl (.pickT rfl rfl) rfl ?_
        refine RunD.nil (by kernel_rfl) ⟨rfl, rfl, ?_⟩
        refine T.condT rfl ?_
        refine T.seq ?_
        refine T.sub (sub_pick [] [] (st' := ⟨[], [], 312, []⟩) rfl rfl rfl rfl rfl) ?_
        refine T.region ?_
        refine RunT.ot0 (x := .v (.bool false)) rfl rfl rfl rfl (.assignX rfl) ?_
        refine RunT.nil ?_
        obtain rfl := si H
        have HX := exr HO46
        obtain rfl := si HX
        refine T.sub (sub_to (st' := ⟨[(2, .v (.bool false))], [], 8, []⟩) [] (by decide) rfl rfl (⟨⟨_, rfl, .one .v⟩, trivial⟩) (trivial)) ?_
        refine T.ret ?_
        exact RetOk.same [.v (.bool false)] ⟨rfl, trivial⟩ rfl rfl rfl
      · replace H := cf H g71
        refine RunD.gt0 (x := .ptr 8 1) rfl rfl rfl (bo g71) rfl rfl (.fieldPX fl28_1 rfl rfl) rfl ?_
        refine RunD.gt0 (x := .v (.int .i64 y50.X)) rfl rfl rfl (bo g71) rfl rfl (.loadP ty3 rfl rfl rfl) rfl ?_
        obtain ⟨r72, h73, H⟩ := bs H
        refine RunD.gt0 (x := .v (.bool r72)) rfl rfl rfl (bo g71) rfl rfl (.callp (ref2_coord_pc false k y50.X r72 h73) rfl ⟨(.one .v), trivial⟩ rfl rfl rfl) rfl ?_
        refine RunD.gt0 (x := .v (.bool (!r72))) rfl rfl rfl (bo g71) rfl rfl (.un rfl (fun w => u_not w) rfl) rfl ?_
        refine RunD.ot0 (x := .v (.bool (!r72))) rfl rfl rfl rfl (.pickF (bo g71) rfl) rfl ?_
        refine RunD.ot0 (x := .v (.bool (!r72))) rfl rfl rfl rfl (.moveX rfl) rfl ?_
        refine RunD.cases (t := 25) (c := !r72) rfl (fun g74 => ?_) (fun g74 => ?_)
        · replace H := ct H g74
          refine RunD.xn rfl rfl rfl (bo g74) rfl rfl ?_
          refine RunD.xn rfl rfl rfl (bo g74) rfl rfl ?_
          refine RunD.xn rfl rfl rfl (bo g74) rfl rfl ?_
          refine RunD.xn rfl rfl rfl (bo g74) rfl rfl ?_
          refine RunD.ot0 (x := .v (.bool true)) rfl rfl rfl rfl (.pickT (bo g74) rfl) rfl ?_
          refine RunD.ot0 (x := .v (.bool true)) rfl rfl rfl rfl (.moveX rfl) rfl ?_
          refine RunD.xn rfl rfl rfl rfl rfl rfl ?_
          refine RunD.xn rfl rfl rfl rfl rfl rfl ?_
          refine RunD.xn rfl rfl rfl rfl rfl rfl ?_
          refine RunD.xn rfl rfl rfl rfl rfl rfl ?_
          refine RunD.ot0 (x := .v (.bool true)) rfl rfl rfl rfl (.pickT rfl rfl) rfl ?_
          refine RunD.ot0 (x := .v (.bool true)) rfl rfl rfl rfl (.moveX rfl) rfl ?_
          refine RunD.xn rfl rfl rfl rfl rfl rfl ?_
          refine RunD.xn rfl rfl rfl rfl rfl rfl ?_
          refine RunD.xn rfl rfl rfl rfl rfl rfl ?_
          refine RunD.xu rfl rfl rfl rfl rfl rfl ?_
          refine RunD.xu rfl rfl rfl rfl rfl rfl ?_
          refine RunD.xu rfl rfl rfl rfl rfl rfl ?_
          refine RunD.xu rfl rfl rfl rfl rfl rfl ?_
          refine RunD.xu rfl rfl rfl rfl rfl rfl ?_
          refine RunD.xu rfl rfl rfl rfl rfl rfl ?_
          refine RunD.xu rfl rfl rfl rfl rfl rfl ?_
          refine RunD.xu rfl rfl rfl rfl rfl rfl ?_
          refine RunD.xn rfl rfl rfl rfl rfl rfl ?_
          refine RunD.ot0 (x := .v (.bool true)) rfl rfl rfl rfl (.pickT rfl rfl) rfl ?_
          refine RunD.nil (by kernel_rfl) ⟨rfl, rfl, ?_⟩
          refine T.condT rfl ?_
          refine T.seq ?_
          refine T.sub (sub_pick [] [] (st' := ⟨[], [], 312, []⟩) rfl rfl rfl rfl rfl) ?_
          refine T.region ?_
          refine RunT.ot0 (x := .v (.bool false)) rfl rfl rfl rfl (.assignX rfl) ?_
          refine RunT.nil ?_
          obtain rfl := si H
          have HX := exr HO46
          obtain rfl := si HX
          refine T.sub (sub_to (st' := ⟨[(2, .v (.bool false))], [], 8, []⟩) [] (by decide) rfl rfl (⟨⟨_, rfl, .one .v⟩, trivial⟩) (trivial)) ?_
          refine T.ret ?_
          exact RetOk.same [.v (.bool false)] ⟨rfl, trivial⟩ rfl rfl rfl
        · replace H := cf H g74
          refine RunD.gt0 (x := .ptr 8 2) rfl rfl rfl (bo g74) rfl rfl (.fieldPX fl28_2 rfl rfl) rfl ?_
          refine RunD.gt0 (x := .v (.int .i64 y50.Y)) rfl rfl rfl (bo g74) rfl rfl (.loadP ty3 rfl rfl rfl) rfl ?_
          obtain ⟨r75, h76, H⟩ := bs H
          refine RunD.gt0 (x := .v (.bool r75)) rfl rfl rfl (bo g74) rfl rfl (.callp (ref2_coord_pc false k y50.Y r75 h76) rfl ⟨(.one .v), trivial⟩ rfl rfl rfl) rfl ?_
          refine RunD.gt0 (x := .v (.bool (!r75))) rfl rfl rfl (bo g74) rfl rfl (.un rfl (fun w => u_not w) rfl) rfl ?_
          refine RunD.ot0 (x := .v (.bool (!r75))) rfl rfl rfl rfl (.pickF (bo g74) rfl) rfl ?_
          refine RunD.ot0 (x := .v (.bool (!r75))) rfl rfl rfl rfl (.moveX rfl) rfl ?_
          refine RunD.cases (t := 31) (c := !r75) rfl (fun g77 => ?_) (fun g77 => ?_)
          · replace H := ct H g77
            refine RunD.xn rfl rfl rfl (bo g77) rfl rfl ?_
            refine RunD.xn rfl rfl rfl (bo g77) rfl rfl ?_
            refine RunD.xn rfl rfl rfl (bo g77) rfl rfl ?_
            refine RunD.xn rfl rfl rfl (bo g77) rfl rfl ?_
            refine RunD.ot0 (x := .v (.bool true)) rfl rfl rfl rfl (.pickT (bo g77) rfl) rfl ?_
            refine RunD.ot0 (x := .v (.bool true)) rfl rfl rfl rfl (.moveX rfl) rfl ?_
            refine RunD.xn rfl rfl rfl rfl rfl rfl ?_
            refine RunD.xn rfl rfl rfl rfl rfl rfl ?_
            refine RunD.xn rfl rfl rfl rfl rfl rfl ?_
            refine RunD.xu rfl rfl rfl rfl rfl rfl ?_
            refine RunD.xu rfl rfl rfl rfl rfl rfl ?_
            refine RunD.xu rfl rfl rfl rfl rfl rfl ?_
            refine RunD.xu rfl rfl rfl rfl rfl rfl ?_
            refine RunD.xu rfl rfl rfl rfl rfl rfl ?_
            refine RunD.xu rfl rfl rfl rfl rfl rfl ?_
            refine RunD.xu rfl rfl rfl rfl rfl rfl ?_
            refine RunD.xu rfl rfl rfl rfl rfl rfl ?_
            refine RunD.xn rfl rfl rfl rfl rfl rfl ?_
            refine RunD.ot0 (x := .v (.bool true)) rfl rfl rfl rfl (.pickT rfl rfl) rfl ?_
            refine RunD.nil (by kernel_rfl) ⟨rfl, rfl, ?_⟩
            refine T.condT rfl ?_
            refine T.seq ?_
            refine T.sub (sub_pick [] [] (st' := ⟨[], [], 312, []⟩) rfl rfl rfl rfl rfl) ?_
            refine T.region ?_
            refine RunT.ot0 (x := .v (.bool false)) rfl rfl rfl rfl (.assignX rfl) ?_
            refine RunT.nil ?_
            obtain rfl := si H
            have HX := exr HO46
            obtain rfl := si HX
            refine T.sub (sub_to (st' := ⟨[(2, .v (.bool false))], [], 8, []⟩) [] (by decide) rfl rfl (⟨⟨_, rfl, .one .v⟩, trivial⟩) (trivial)) ?_
            refine T.ret ?_
            exact RetOk.same [.v (.bool false)] ⟨rfl, trivial⟩ rfl rfl rfl
          · replace H := cf H g77
            refine RunD.gt0 (x := .ptr 8 3) rfl rfl rfl (bo g77) rfl rfl (.fieldPX fl28_3 rfl rfl) rfl ?_
            refine RunD.gt0 (x := .v (.int .i64 y50.Kind)) rfl rfl rfl (bo g77) rfl rfl (.loadP ty3 rfl rfl rfl) rfl ?_
            obtain ⟨r78, h79, H⟩ := bs H
            refine RunD.gt0 (x := .v (.bool r78)) rfl rfl rfl (bo g77) rfl rfl (.callp (ref2_in_pc false k y50.Kind 0 2 r78 h79) rfl ⟨(.one .v), (.one .v), (.one .v), trivial⟩ rfl rfl rfl) rfl ?_
            refine RunD.gt0 (x := .v (.bool (!r78))) rfl rfl rfl (bo g77) rfl rfl (.un rfl (fun w => u_not w) rfl) rfl ?_
            refine RunD.ot0 (x := .v (.bool (!r78))) rfl rfl rfl rfl (.pickF (bo g77) rfl) rfl ?_
            refine RunD.ot0 (x := .v (.bool (!r78))) rfl rfl rfl rfl (.moveX rfl) rfl ?_
            refine RunD.cases (t := 37) (c := !r78) rfl (fun g80 => ?_) (fun g80 => ?_)
            · replace H := ct H g80
              refine RunD.xn rfl rfl rfl (bo g80) rfl rfl ?_
              refine RunD.xn rfl rfl rfl (bo g80) rfl rfl ?_
              refine RunD.xn rfl rfl rfl (bo g80) rfl rfl ?_
              refine RunD.xu rfl rfl rfl rfl rfl rfl ?_
              refine RunD.xu rfl rfl rfl rfl rfl rfl ?_
              refine RunD.xu rfl rfl rfl rfl rfl rfl ?_
              refine RunD.xu rfl rfl rfl rfl rfl rfl ?_
              refine RunD.xu rfl rfl rfl rfl rfl rfl ?_
              refine RunD.xu rfl rfl rfl rfl rfl rfl ?_
              refine RunD.xu rfl rfl rfl rfl rfl rfl ?_
              refine RunD.xu rfl rfl rfl rfl rfl rfl ?_
              refine RunD.xn rfl rfl rfl (bo g80) rfl rfl ?_
              refine RunD.ot0 (x := .v (.bool true)) rfl rfl rfl rfl (.pickT (bo g80) rfl) rfl ?_
              refine RunD.nil (by kernel_rfl) ⟨rfl, rfl, ?_⟩
              refine T.condT rfl ?_
              refine T.seq ?_
              refine T.sub (sub_pick [] [] (st' := ⟨[], [], 312, []⟩) rfl rfl rfl rfl rfl) ?_
              refine T.region ?_
              refine RunT.ot0 (x := .v (.bool false)) rfl rfl rfl rfl (.assignX rfl) ?_
              refine RunT.nil ?_
              obtain rfl := si H
              have HX := exr HO46
              obtain rfl := si HX
              refine T.sub (sub_to (st' := ⟨[(2, .v (.bool false))], [], 8, []⟩) [] (by decide) rfl rfl (⟨⟨_, rfl, .one .v⟩, trivial⟩) (trivial)) ?_
              refine T.ret ?_
              exact RetOk.same [.v (.bool false)] ⟨rfl, trivial⟩ rfl rfl rfl
            · replace H := cf H g80
              refine RunD.gt0 (x := .v (.int .i64 v48)) rfl rfl rfl (bo g80) rfl rfl (.moveX rfl) rfl ?_
              refine RunD.gt0 (x := .v (.bool (decide (0 < v48)))) rfl rfl rfl (bo g80) rfl rfl (.bin rfl rfl (fun w => b_gtr w) rfl) rfl ?_
              refine RunD.gt0 (x := .v (.bool (decide (0 < v48)))) rfl rfl rfl (bo g80) rfl rfl (.moveX rfl) rfl ?_
              refine RunD.cases (t := 40) (c := decide (0 < v48)) rfl (fun g81 => ?_) (fun g81 => ?_)
              · replace H := ct H g81
                refine RunD.gt0 (x := .lst (List.map eSeat a0)) rfl rfl rfl (bo g81) rfl rfl (.moveX rfl) rfl ?_
                refine RunD.gt0 (x := .v (.int .i64 v48)) rfl rfl rfl (bo g81) rfl rfl (.moveX rfl) rfl ?_
                refine RunD.gt0 (x := .v (.int .i64 (wr (v48 - 1)))) rfl rfl rfl (bo g81) rfl rfl (.bin rfl rfl (fun w => b_subw w) rfl) rfl ?_
                obtain ⟨y82, h83, H⟩ := bs H
                refine RunD.gt0 (x := .rptr [.v (.int .i64 y82.Row), .v (.int .i64 y82.X), .v (.int .i64 y82.Y), .v (.int .i64 y82.Kind)]) rfl rfl rfl (bo g81) rfl rfl (.idxLX h83 enc_Seat sl22 rfl rfl rfl) rfl ?_
                refine RunD.gt0 (x := .agg [.v (.int .i64 y82.Row), .v (.int .i64 y82.X), .v (.int .i64 y82.Y), .v (.int .i64 y82.Kind)]) rfl rfl rfl (bo g81) rfl rfl (.loadR ty28 rfl rfl) rfl ?_
                refine RunD.gt0 (x := .agg [.v (.int .i64 y50.Row), .v (.int .i64 y50.X), .v (.int .i64 y50.Y), .v (.int .i64 y50.Kind)]) rfl rfl rfl (bo g81) rfl rfl (.loadP ty28 rfl rfl rfl) rfl ?_
                obtain ⟨r84, h85, H⟩ := bs H
                refine RunD.gt0 (x := .v (.bool r84)) rfl rfl rfl (bo g81) rfl rfl (.callp (ref2_Less_pc false k y82 y50 r84 h85) rfl ⟨(.agg' ⟨.v, .v, .v, .v, trivial⟩), (.agg' ⟨.v, .v, .v, .v, trivial⟩), trivial⟩ rfl rfl rfl) rfl ?_
                refine RunD.gt0 (x := .v (.bool (!r84))) rfl rfl rfl (bo g81) rfl rfl (.un rfl (fun w => u_not w) rfl) rfl ?_
                refine RunD.gt0 (x := .v (.bool (!r84))) rfl rfl rfl (bo g80) rfl rfl (.pickT (bo g81) rfl) rfl ?_
                refine RunD.ot0 (x := .v (.bool (!r84))) rfl rfl rfl rfl (.pickF (bo g80) rfl) rfl ?_
                refine RunD.nil (by kernel_rfl) ⟨rfl, rfl, ?_⟩
                refine T.cond2 (t := !r84) rfl (fun c86 => ?_) (fun c86 => ?_)
                · replace H := ct H c86
                  refine T.seq ?_
                  refine T.sub (sub_pick [] [] (st' := ⟨[], [], 312, []⟩) rfl rfl rfl rfl rfl) ?_
                  refine T.region ?_
                  refine RunT.ot0 (x := .v (.bool false)) rfl rfl rfl rfl (.assignX rfl) ?_
                  refine RunT.nil ?_
                  obtain rfl := si H
                  have HX := exr HO46
                  obtain rfl := si HX
                  refine T.sub (sub_to (st' := ⟨[(2, .v (.bool false))], [], 8, []⟩) [] (by decide) rfl rfl (⟨⟨_, rfl, .one .v⟩, trivial⟩) (trivial)) ?_
                  refine T.ret ?_
                  exact RetOk.same [.v (.bool false)] ⟨rfl, trivial⟩ rfl rfl rfl
                · replace H := cf H c86
                  refine T.skip ?_
                  refine T.region ?_
                  refine RunT.ot0 (x := .v (.int .i64 v48)) rfl rfl rfl rfl (.moveX rfl) ?_
                  refine RunT.ot0 (x := .v (.int .i64 (wr (v48 + 1)))) rfl rfl rfl rfl (.bin rfl rfl (fun w => b_addw w) rfl) ?_
                  refine RunT.ot0 (x := .v (.int .i64 (wr (v48 + 1)))) rfl rfl rfl rfl (.assignX rfl) ?_
                  refine RunT.nil ?_
                  exact ⟨n, Nat.lt_succ_self n, _, ⟨wr (v48 + 1), H, rfl⟩, (sub_to [] (by decide) rfl rfl (⟨⟨_, rfl, .one .lst⟩, ⟨⟨_, rfl, .one .v⟩, trivial⟩⟩) (trivial))⟩
              · replace H := cf H g81
                refine RunD.xn rfl rfl rfl (bo g81) rfl rfl ?_
                refine RunD.xn rfl rfl rfl (bo g81) rfl rfl ?_
                refine RunD.xn rfl rfl rfl (bo g81) rfl rfl ?_
                refine RunD.xn rfl rfl rfl (bo g81) rfl rfl ?_
                refine RunD.xn rfl rfl rfl (bo g81) rfl rfl ?_
                refine RunD.xn rfl rfl rfl (bo g81) rfl rfl ?_
                refine RunD.xn rfl rfl rfl (bo g81) rfl rfl ?_
                refine RunD.xn rfl rfl rfl (bo g81) rfl rfl ?_
                refine RunD.gt0 (x := .v (.bool false)) rfl rfl rfl (bo g80) rfl rfl (.pickF (bo g81) rfl) rfl ?_
                refine RunD.ot0 (x := .v (.bool false)) rfl rfl rfl rfl (.pickF (bo g80) rfl) rfl ?_
                refine RunD.nil (by kernel_rfl) ⟨rfl, rfl, ?_⟩
                refine T.condF rfl ?_
                refine T.skip ?_
                refine T.sub (sub_pick [0, 3] [] (st' := ⟨[(0, .lst (List.map eSeat a0)), (3, .v (.int .i64 v48))], [], 312, []⟩) rfl rfl rfl rfl rfl) ?_
                refine T.region ?_
                refine RunT.ot0 (x := .v (.int .i64 v48)) rfl rfl rfl rfl (.moveX rfl) ?_
                refine RunT.ot0 (x := .v (.int .i64 (wr (v48 + 1)))) rfl rfl rfl rfl (.bin rfl rfl (fun w => b_addw w) rfl) ?_
                refine RunT.ot0 (x := .v (.int .i64 (wr (v48 + 1)))) rfl rfl rfl rfl (.assignX rfl) ?_
                refine RunT.nil ?_
                exact ⟨n, Nat.lt_succ_self n, _, ⟨wr (v48 + 1), H, rfl⟩, (sub_to [] (by decide) rfl rfl (⟨⟨_, rfl, .one .lst⟩, ⟨⟨_, rfl, .one .v⟩, trivial⟩⟩) (trivial))⟩
    · replace H := cf H c49
      refine T.exit ?_
      obtain rfl := si H
      exact ⟨_, rfl, (sub_to [] (by decide) rfl rfl (⟨⟨_, rfl, .one .lst⟩, trivial⟩) (trivial))⟩
  · intro v47 s hR hS
    subst hR
    have H := exg HO46
    refine T.sub hS ?_
    refine T.seq ?_
    refine T.region ?_
    refine RunT.ot0 (x := .lst (List.map eSeat a0)) rfl rfl rfl rfl (.moveX rfl) ?_
    refine RunT.ot0 (x := .v (.int .i64 (a0.length : Int))) rfl rfl rfl rfl (.lenLm Try.underlying22 rfl rfl) ?_
    refine RunT.ot0 (x := .v (.bool (decide (1 ≤ (a0.length : Int))))) rfl rfl rfl rfl (.bin rfl rfl (fun w => b_geq w) rfl) ?_
    refine RunT.ot0 (x := .v (.bool (decide (1 ≤ (a0.length : Int))))) rfl rfl rfl rfl (.moveX rfl) ?_
    refine RunT.cases (t := 54) (c := decide (1 ≤ (a0.length : Int))) rfl (fun g87 => ?_) (fun g87 => ?_)
    · replace H := ct H g87
      refine RunT.gt0 (x := .lst (List.map eSeat a0)) rfl rfl rfl (bo g87) rfl rfl (.moveX rfl) ?_
      refine RunT.gt0 (x := .v (.int .i64 (a0.length : Int))) rfl rfl rfl (bo g87) rfl rfl (.lenLm Try.underlying22 rfl rfl) ?_
      refine RunT.gt0 (x := .v (.bool (decide ((a0.length : Int) ≤ 4096)))) rfl rfl rfl (bo g87) rfl rfl (.bin rfl rfl (fun w => b_leq w) rfl) ?_
      refine RunT.ot0 (x := .v (.bool (decide ((a0.length : Int) ≤ 4096)))) rfl rfl rfl rfl (.pickT (bo g87) rfl) ?_
      refine RunT.ot0 (x := .v (.bool (decide ((a0.length : Int) ≤ 4096)))) rfl rfl rfl rfl (.assignX rfl) ?_
      refine RunT.nil ?_
      obtain rfl := si H
      refine T.sub (sub_to (st' := ⟨[(2, .v (.bool (decide ((a0.length : Int) ≤ 4096))))], [], 8, []⟩) [] (by decide) rfl rfl (⟨⟨_, rfl, .one .v⟩, trivial⟩) (trivial)) ?_
      refine T.ret ?_
      exact RetOk.same [.v (.bool (decide ((a0.length : Int) ≤ 4096)))] ⟨rfl, trivial⟩ rfl rfl rfl
    · replace H := cf H g87
      refine RunT.xn rfl rfl rfl (bo g87) rfl rfl ?_
      refine RunT.xn rfl rfl rfl (bo g87) rfl rfl ?_
      refine RunT.xn rfl rfl rfl (bo g87) rfl rfl ?_
      refine RunT.ot0 (x := .v (.bool false)) rfl rfl rfl rfl (.pickF (bo g87) rfl) ?_
      refine RunT.ot0 (x := .v (.bool false)) rfl rfl rfl rfl (.assignX rfl) ?_
      refine RunT.nil ?_
      obtain rfl := si H
      refine T.sub (sub_to (st' := ⟨[(2, .v (.bool false))], [], 8, []⟩) [] (by decide) rfl rfl (⟨⟨_, rfl, .one .v⟩, trivial⟩) (trivial)) ?_
      refine T.ret ?_
      exact RetOk.same [.v (.bool false)] ⟨rfl, trivial⟩ rfl rfl rfl
set_option maxHeartbeats 4000000 in
theorem ref2_kills_pc (al : Bool) (k : Nat) (a0 : (List Int)) (a1 : Int) (o : Bool) (H : ref2_kills k a0 a1 = some o) : PC Try.prog al 134 [.lst (List.map eI a0), .v (.int .i64 a1)] (.v (.bool o)) := by
  unfold ref2_kills at H
  refine PC.of_T Try.func134 rfl rfl (n := 39) rfl rfl (.inr rfl) ?_
  intro base B w0
  refine T.st (st' := ⟨[(0, .lst (List.map eI a0)), (1, .v (.int .i64 a1))], [], 0, []⟩) rfl ?_
  refine T.seq ?_
  refine T.region ?_
  refine RunT.ot0 (x := .v (.bool false)) rfl rfl rfl rfl (.assignX rfl) ?_
  refine RunT.nil ?_
  refine T.seq ?_
  refine T.seq ?_
  refine T.region ?_
  refine RunT.ot0 (x := .v (.int .i64 0)) rfl rfl rfl rfl (.assignX rfl) ?_
  refine RunT.nil ?_
  obtain ⟨o26, E27, HO28⟩ := bs H
  refine T.cutPE (fun v29 => o26 = .go v29) (fun v29 => ⟨[(0, .lst (List.map eI a0))], [], 8, []⟩) ?_ ?_
  · have H := E27
    refine T.block ?_
    refine T.loopS (fun n s => ∃ (v30 : Int), ref2_kills_l0 k a0 a1 n v30 = some o26 ∧ s = ⟨[(0, .lst (List.map eI a0)), (1, .v (.int .i64 a1)), (5, .v (.int .i64 v30))], [], 8, []⟩) k ⟨_, ⟨0, H, rfl⟩, sub_to [] (by decide) rfl rfl (⟨⟨_, rfl, .one .lst⟩, ⟨⟨_, rfl, .one .v⟩, ⟨⟨_, rfl, .one .v⟩, trivial⟩⟩⟩) (trivial)⟩ ?_
    rintro n s ⟨v30, H, rfl⟩
    rcases n with _ | n
    · cases (show none = some _ from H)
    rw [ref2_kills_l0] at H
    refine T.seq ?_
    refine T.seq ?_
    refine T.region ?_
    refine RunT.ot0 (x := .v (.int .i64 v30)) rfl rfl rfl rfl (.moveX rfl) ?_
    refine RunT.ot0 (x := .lst (List.map eI a0)) rfl rfl rfl rfl (.moveX rfl) ?_
    refine RunT.ot0 (x := .v (.int .i64 (a0.length : Int))) rfl rfl rfl rfl (.lenLm Try.underlying23 rfl rfl) ?_
    refine RunT.ot0 (x := .v (.bool (decide (v30 < (a0.length : Int))))) rfl rfl rfl rfl (.bin rfl rfl (fun w => b_lss w) rfl) ?_
    refine RunT.nil ?_
    refine T.cond2 (t := decide (v30 < (a0.length : Int))) rfl (fun c31 => ?_) (fun c31 => ?_)
    · replace H := ct H c31
      refine T.skip ?_
      refine T.seq ?_
      refine T.block ?_
      refine T.seq ?_
      refine T.draw (wr := []) mixed rfl rfl ?_ rfl
      refine RunD.ot0 (x := .lst (List.map eI a0)) rfl rfl rfl rfl (.moveX rfl) rfl ?_
      refine RunD.ot0 (x := .v (.int .i64 v30)) rfl rfl rfl rfl (.moveX rfl) rfl ?_
      obtain ⟨y42, h43, H⟩ := bs H
      refine RunD.ot0 (x := .rptr [.v (.int .i64 y42)]) rfl rfl rfl rfl (.idxLX h43 enc_I sl23 rfl rfl rfl) rfl ?_
      refine RunD.ot0 (x := .v (.int .i64 y42)) rfl rfl rfl rfl (.loadR ty3 rfl rfl) rfl ?_
      refine RunD.ot0 (x := .v (.int .i64 a1)) rfl rfl rfl rfl (.moveX rfl) rfl ?_
      refine RunD.ot0 (x := .v (.int .i64 (wr (a1 - 1)))) rfl rfl rfl rfl (.bin rfl rfl (fun w => b_subw w) rfl) rfl ?_
      obtain ⟨r44, h45, H⟩ := bs H
      refine RunD.ot0 (x := .v (.bool r44)) rfl rfl rfl rfl (.callp (ref2_in_pc false k y42 0 (wr (a1 - 1)) r44 h45) rfl ⟨(.one .v), (.one .v), (.one .v), trivial⟩ rfl rfl rfl) rfl ?_
      refine RunD.ot0 (x := .v (.bool (!r44))) rfl rfl rfl rfl (.un rfl (fun w => u_not w) rfl) rfl ?_
      refine RunD.ot0 (x := .v (.bool (!r44))) rfl rfl rfl rfl (.moveX rfl) rfl ?_
      refine RunD.cases (t := 20) (c := !r44) rfl (fun g46 => ?_) (fun g46 => ?_)
      · replace H := ct H g46
        refine RunD.xn rfl rfl rfl (bo g46) rfl rfl ?_
        refine RunD.xn rfl rfl rfl (bo g46) rfl rfl ?_
        refine RunD.xn rfl rfl rfl (bo g46) rfl rfl ?_
        refine RunD.xu rfl rfl rfl rfl rfl rfl ?_
        refine RunD.xu rfl rfl rfl rfl rfl rfl ?_
        refine RunD.xu rfl rfl rfl rfl rfl rfl ?_
        refine RunD.xu rfl rfl rfl rfl rfl rfl ?_
        refine RunD.xu rfl rfl rfl rfl rfl rfl ?_
        refine RunD.xu rfl rfl rfl rfl rfl rfl ?_
        refine RunD.xu rfl rfl rfl rfl rfl rfl ?_
        refine RunD.xu rfl rfl rfl rfl rfl rfl ?_
        refine RunD.xu rfl rfl rfl rfl rfl rfl ?_
        refine RunD.xu rfl rfl rfl rfl rfl rfl ?_
        refine RunD.xn rfl rfl rfl (bo g46) rfl rfl ?_
        refine RunD.ot0 (x := .v (.bool true)) rfl rfl rfl rfl (.pickT (bo g46) rfl) rfl ?_
        refine RunD.nil (by kernel_rfl) ⟨rfl, rfl, ?_⟩
        refine T.condT rfl ?_
        refine T.seq ?_
        refine T.sub (sub_pick [] [] (st' := ⟨[], [], 200, []⟩) rfl rfl rfl rfl rfl) ?_
        refine T.region ?_
        refine RunT.ot0 (x := .v (.bool false)) rfl rfl rfl rfl (.assignX rfl) ?_
        refine RunT.nil ?_
        obtain rfl := si H
        have HX := exr HO28
        obtain rfl := si HX
        refine T.sub (sub_to (st' := ⟨[(4, .v (.bool false))], [], 8, []⟩) [] (by decide) rfl rfl (⟨⟨_, rfl, .one .v⟩, trivial⟩) (trivial)) ?_
        refine T.ret ?_
        exact RetOk.same [.v (.bool false)] ⟨rfl, trivial⟩ rfl rfl rfl
      · replace H := cf H g46
        refine RunD.gt0 (x := .v (.int .i64 v30)) rfl rfl rfl (bo g46) rfl rfl (.moveX rfl) rfl ?_
        refine RunD.gt0 (x := .v (.bool (decide (0 < v30)))) rfl rfl rfl (bo g46) rfl rfl (.bin rfl rfl (fun w => b_gtr w) rfl) rfl ?_
        refine RunD.gt0 (x := .v (.bool (decide (0 < v30)))) rfl rfl rfl (bo g46) rfl rfl (.moveX rfl) rfl ?_
        refine RunD.cases (t := 23) (c := decide (0 < v30)) rfl (fun g47 => ?_) (fun g47 => ?_)
        · replace H := ct H g47
          refine RunD.gt0 (x := .lst (List.map eI a0)) rfl rfl rfl (bo g47) rfl rfl (.moveX rfl) rfl ?_
          refine RunD.gt0 (x := .v (.int .i64 v30)) rfl rfl rfl (bo g47) rfl rfl (.moveX rfl) rfl ?_
          obtain ⟨y48, h49, H⟩ := bs H
          refine RunD.gt0 (x := .rptr [.v (.int .i64 y48)]) rfl rfl rfl (bo g47) rfl rfl (.idxLX h49 enc_I sl23 rfl rfl rfl) rfl ?_
          refine RunD.gt0 (x := .v (.int .i64 y48)) rfl rfl rfl (bo g47) rfl rfl (.loadR ty3 rfl rfl) rfl ?_
          refine RunD.gt0 (x := .lst (List.map eI a0)) rfl rfl rfl (bo g47) rfl rfl (.moveX rfl) rfl ?_
          refine RunD.gt0 (x := .v (.int .i64 v30)) rfl rfl rfl (bo g47) rfl rfl (.moveX rfl) rfl ?_
          refine RunD.gt0 (x := .v (.int .i64 (wr (v30 - 1)))) rfl rfl rfl (bo g47) rfl rfl (.bin rfl rfl (fun w => b_subw w) rfl) rfl ?_
          obtain ⟨y50, h51, H⟩ := bs H
          refine RunD.gt0 (x := .rptr [.v (.int .i64 y50)]) rfl rfl rfl (bo g47) rfl rfl (.idxLX h51 enc_I sl23 rfl rfl rfl) rfl ?_
          refine RunD.gt0 (x := .v (.int .i64 y50)) rfl rfl rfl (bo g47) rfl rfl (.loadR ty3 rfl rfl) rfl ?_
          refine RunD.gt0 (x := .v (.bool (decide (y48 ≤ y50)))) rfl rfl rfl (bo g47) rfl rfl (.bin rfl rfl (fun w => b_leq w) rfl) rfl ?_
          refine RunD.gt0 (x := .v (.bool (decide (y48 ≤ y50)))) rfl rfl rfl (bo g46) rfl rfl (.pickT (bo g47) rfl) rfl ?_
          refine RunD.ot0 (x := .v (.bool (decide (y48 ≤ y50)))) rfl rfl rfl rfl (.pickF (bo g46) rfl) rfl ?_
          refine RunD.nil (by kernel_rfl) ⟨rfl, rfl, ?_⟩
          refine T.cond2 (t := decide (y48 ≤ y50)) rfl (fun c52 => ?_) (fun c52 => ?_)
          · replace H := ct H c52
            refine T.seq ?_
            refine T.sub (sub_pick [] [] (st' := ⟨[], [], 200, []⟩) rfl rfl rfl rfl rfl) ?_
            refine T.region ?_
            refine RunT.ot0 (x := .v (.bool false)) rfl rfl rfl rfl (.assignX rfl) ?_
            refine RunT.nil ?_
            obtain rfl := si H
            have HX := exr HO28
            obtain rfl := si HX
            refine T.sub (sub_to (st' := ⟨[(4, .v (.bool false))], [], 8, []⟩) [] (by decide) rfl rfl (⟨⟨_, rfl, .one .v⟩, trivial⟩) (trivial)) ?_
            refine T.ret ?_
            exact RetOk.same [.v (.bool false)] ⟨rfl, trivial⟩ rfl rfl rfl
          · replace H := cf H c52
            refine T.skip ?_
            refine T.region ?_
            refine RunT.ot0 (x := .v (.int .i64 v30)) rfl rfl rfl rfl (.moveX rfl) ?_
            refine RunT.ot0 (x := .v (.int .i64 (wr (v30 + 1)))) rfl rfl rfl rfl (.bin rfl rfl (fun w => b_addw w) rfl) ?_
            refine RunT.ot0 (x := .v (.int .i64 (wr (v30 + 1)))) rfl rfl rfl rfl (.assignX rfl) ?_
            refine RunT.nil ?_
            exact ⟨n, Nat.lt_succ_self n, _, ⟨wr (v30 + 1), H, rfl⟩, (sub_to [] (by decide) rfl rfl (⟨⟨_, rfl, .one .lst⟩, ⟨⟨_, rfl, .one .v⟩, ⟨⟨_, rfl, .one .v⟩, trivial⟩⟩⟩) (trivial))⟩
        · replace H := cf H g47
          refine RunD.xn rfl rfl rfl (bo g47) rfl rfl ?_
          refine RunD.xn rfl rfl rfl (bo g47) rfl rfl ?_
          refine RunD.xn rfl rfl rfl (bo g47) rfl rfl ?_
          refine RunD.xn rfl rfl rfl (bo g47) rfl rfl ?_
          refine RunD.xn rfl rfl rfl (bo g47) rfl rfl ?_
          refine RunD.xn rfl rfl rfl (bo g47) rfl rfl ?_
          refine RunD.xn rfl rfl rfl (bo g47) rfl rfl ?_
          refine RunD.xn rfl rfl rfl (bo g47) rfl rfl ?_
          refine RunD.xn rfl rfl rfl (bo g47) rfl rfl ?_
          refine RunD.xn rfl rfl rfl (bo g47) rfl rfl ?_
          refine RunD.gt0 (x := .v (.bool false)) rfl rfl rfl (bo g46) rfl rfl (.pickF (bo g47) rfl) rfl ?_
          refine RunD.ot0 (x := .v (.bool false)) rfl rfl rfl rfl (.pickF (bo g46) rfl) rfl ?_
          refine RunD.nil (by kernel_rfl) ⟨rfl, rfl, ?_⟩
          refine T.condF rfl ?_
          refine T.skip ?_
          refine T.sub (sub_pick [0, 1, 5] [] (st' := ⟨[(0, .lst (List.map eI a0)), (1, .v (.int .i64 a1)), (5, .v (.int .i64 v30))], [], 200, []⟩) rfl rfl rfl rfl rfl) ?_
          refine T.region ?_
          refine RunT.ot0 (x := .v (.int .i64 v30)) rfl rfl rfl rfl (.moveX rfl) ?_
          refine RunT.ot0 (x := .v (.int .i64 (wr (v30 + 1)))) rfl rfl rfl rfl (.bin rfl rfl (fun w => b_addw w) rfl) ?_
          refine RunT.ot0 (x := .v (.int .i64 (wr (v30 + 1)))) rfl rfl rfl rfl (.assignX rfl) ?_
          refine RunT.nil ?_
          exact ⟨n, Nat.lt_succ_self n, _, ⟨wr (v30 + 1), H, rfl⟩, (sub_to [] (by decide) rfl rfl (⟨⟨_, rfl, .one .lst⟩, ⟨⟨_, rfl, .one .v⟩, ⟨⟨_, rfl, .one .v⟩, trivial⟩⟩⟩) (trivial))⟩
    · replace H := cf H c31
      refine T.exit ?_
      obtain rfl := si H
      exact ⟨_, rfl, (sub_to [] (by decide) rfl rfl (⟨⟨_, rfl, .one .lst⟩, trivial⟩) (trivial))⟩
  · intro v29 s hR hS
    subst hR
    have H := exg HO28
    refine T.sub hS ?_
    refine T.seq ?_
    refine T.region ?_
    refine RunT.ot0 (x := .lst (List.map eI a0)) rfl rfl rfl rfl (.moveX rfl) ?_
    refine RunT.ot0 (x := .v (.int .i64 (a0.length : Int))) rfl rfl rfl rfl (.lenLm Try.underlying23 rfl rfl) ?_
    refine RunT.ot0 (x := .v (.bool (decide ((a0.length : Int) ≤ 200)))) rfl rfl rfl rfl (.bin rfl rfl (fun w => b_leq w) rfl) ?_
    refine RunT.ot0 (x := .v (.bool (decide ((a0.length : Int) ≤ 200)))) rfl rfl rfl rfl (.assignX rfl) ?_
    refine RunT.nil ?_
    obtain rfl := si H
    refine T.sub (sub_to (st' := ⟨[(4, .v (.bool (decide ((a0.length : Int) ≤ 200))))], [], 8, []⟩) [] (by decide) rfl rfl (⟨⟨_, rfl, .one .v⟩, trivial⟩) (trivial)) ?_
    refine T.ret ?_
    exact RetOk.same [.v (.bool (decide ((a0.length : Int) ≤ 200)))] ⟨rfl, trivial⟩ rfl rfl rfl
set_option maxHeartbeats 4000000 in
theorem ref2_poles_pc (al : Bool) (k : Nat) (a0 : (List Pole)) (o : Bool) (H : ref2_poles k a0 = some o) : PC Try.prog al 135 [.lst (List.map ePole a0)] (.v (.bool o)) := by
  unfold ref2_poles at H
  refine PC.of_T Try.func135 rfl rfl (n := 38) rfl rfl (.inr rfl) ?_
  intro base B w0
  refine T.st (st' := ⟨[(0, .lst (List.map ePole a0))], [], 0, []⟩) rfl ?_
  refine T.seq ?_
  refine T.region ?_
  refine RunT.ot0 (x := .v (.bool false)) rfl rfl rfl rfl (.assignX rfl) ?_
  refine RunT.nil ?_
  refine T.seq ?_
  refine T.seq ?_
  refine T.region ?_
  refine RunT.ot0 (x := .v (.int .i64 0)) rfl rfl rfl rfl (.assignX rfl) ?_
  refine RunT.nil ?_
  obtain ⟨o34, E35, HO36⟩ := bs H
  refine T.cutPE (fun v37 => o34 = .go v37) (fun v37 => ⟨[(0, .lst (List.map ePole a0))], [], 8, []⟩) ?_ ?_
  · have H := E35
    refine T.block ?_
    refine T.loopS (fun n s => ∃ (v38 : Int), ref2_poles_l0 k a0 n v38 = some o34 ∧ s = ⟨[(0, .lst (List.map ePole a0)), (3, .v (.int .i64 v38))], [], 8, []⟩) k ⟨_, ⟨0, H, rfl⟩, sub_to [] (by decide) rfl rfl (⟨⟨_, rfl, .one .lst⟩, ⟨⟨_, rfl, .one .v⟩, trivial⟩⟩) (trivial)⟩ ?_
    rintro n s ⟨v38, H, rfl⟩
    rcases n with _ | n
    · cases (show none = some _ from H)
    rw [ref2_poles_l0] at H
    refine T.seq ?_
    refine T.seq ?_
    refine T.region ?_
    refine RunT.ot0 (x := .v (.int .i64 v38)) rfl rfl rfl rfl (.moveX rfl) ?_
    refine RunT.ot0 (x := .lst (List.map ePole a0)) rfl rfl rfl rfl (.moveX rfl) ?_
    refine RunT.ot0 (x := .v (.int .i64 (a0.length : Int))) rfl rfl rfl rfl (.lenLm Try.underlying24 rfl rfl) ?_
    refine RunT.ot0 (x := .v (.bool (decide (v38 < (a0.length : Int))))) rfl rfl rfl rfl (.bin rfl rfl (fun w => b_lss w) rfl) ?_
    refine RunT.nil ?_
    refine T.cond2 (t := decide (v38 < (a0.length : Int))) rfl (fun c39 => ?_) (fun c39 => ?_)
    · replace H := ct H c39
      refine T.skip ?_
      refine T.seq ?_
      refine T.block ?_
      refine T.seq ?_
      refine T.region ?_
      refine RunT.ot0 (x := .lst (List.map ePole a0)) rfl rfl rfl rfl (.moveX rfl) ?_
      refine RunT.ot0 (x := .v (.int .i64 v38)) rfl rfl rfl rfl (.moveX rfl) ?_
      obtain ⟨y40, h41, H⟩ := bs H
      refine RunT.ot0 (x := .rptr [.v (.int .i64 y40.X), .v (.int .i64 y40.Y), .v (.int .i64 y40.R)]) rfl rfl rfl rfl (.idxLX h41 enc_Pole sl24 rfl rfl rfl) ?_
      refine RunT.ot0 (x := .rptr [.v (.int .i64 y40.X), .v (.int .i64 y40.Y), .v (.int .i64 y40.R)]) rfl rfl rfl rfl (.fieldRX fl60_0 rfl rfl) ?_
      refine RunT.ot0 (x := .v (.int .i64 y40.X)) rfl rfl rfl rfl (.loadR ty3 rfl rfl) ?_
      obtain ⟨r42, h43, H⟩ := bs H
      refine RunT.ot0 (x := .v (.bool r42)) rfl rfl rfl rfl (.callp (ref2_coord_pc false k y40.X r42 h43) rfl ⟨(.one .v), trivial⟩ rfl rfl rfl) ?_
      refine RunT.ot0 (x := .v (.bool (!r42))) rfl rfl rfl rfl (.un rfl (fun w => u_not w) rfl) ?_
      refine RunT.ot0 (x := .v (.bool (!r42))) rfl rfl rfl rfl (.moveX rfl) ?_
      refine RunT.cases (t := 17) (c := !r42) rfl (fun g44 => ?_) (fun g44 => ?_)
      · replace H := ct H g44
        refine RunT.xn rfl rfl rfl (bo g44) rfl rfl ?_
        refine RunT.xn rfl rfl rfl (bo g44) rfl rfl ?_
        refine RunT.xn rfl rfl rfl (bo g44) rfl rfl ?_
        refine RunT.xn rfl rfl rfl (bo g44) rfl rfl ?_
        refine RunT.xn rfl rfl rfl (bo g44) rfl rfl ?_
        refine RunT.xn rfl rfl rfl (bo g44) rfl rfl ?_
        refine RunT.xn rfl rfl rfl (bo g44) rfl rfl ?_
        refine RunT.ot0 (x := .v (.bool true)) rfl rfl rfl rfl (.pickT (bo g44) rfl) ?_
        refine RunT.ot0 (x := .v (.bool true)) rfl rfl rfl rfl (.moveX rfl) ?_
        refine RunT.xn rfl rfl rfl rfl rfl rfl ?_
        refine RunT.xn rfl rfl rfl rfl rfl rfl ?_
        refine RunT.xn rfl rfl rfl rfl rfl rfl ?_
        refine RunT.xn rfl rfl rfl rfl rfl rfl ?_
        refine RunT.xn rfl rfl rfl rfl rfl rfl ?_
        refine RunT.xn rfl rfl rfl rfl rfl rfl ?_
        refine RunT.xn rfl rfl rfl rfl rfl rfl ?_
        refine RunT.ot0 (x := .v (.bool true)) rfl rfl rfl rfl (.pickT rfl rfl) ?_
        refine RunT.nil ?_
        refine T.condT rfl ?_
        refine T.seq ?_
        refine T.sub (sub_pick [] [] (st' := ⟨[], [], 8, []⟩) rfl rfl rfl rfl rfl) ?_
        refine T.region ?_
        refine RunT.ot0 (x := .v (.bool false)) rfl rfl rfl rfl (.assignX rfl) ?_
        refine RunT.nil ?_
        obtain rfl := si H
        have HX := exr HO36
        obtain rfl := si HX
        refine T.sub (sub_to (st' := ⟨[(2, .v (.bool false))], [], 8, []⟩) [] (by decide) rfl rfl (⟨⟨_, rfl, .one .v⟩, trivial⟩) (trivial)) ?_
        refine T.ret ?_
        exact RetOk.same [.v (.bool false)] ⟨rfl, trivial⟩ rfl rfl rfl
      · replace H := cf H g44
        refine RunT.gt0 (x := .lst (List.map ePole a0)) rfl rfl rfl (bo g44) rfl rfl (.moveX rfl) ?_
        refine RunT.gt0 (x := .v (.int .i64 v38)) rfl rfl rfl (bo g44) rfl rfl (.moveX rfl) ?_
        obtain ⟨y45, h46, H⟩ := bs H
        refine RunT.gt0 (x := .rptr [.v (.int .i64 y45.X), .v (.int .i64 y45.Y), .v (.int .i64 y45.R)]) rfl rfl rfl (bo g44) rfl rfl (.idxLX h46 enc_Pole sl24 rfl rfl rfl) ?_
        refine RunT.gt0 (x := .rptr [.v (.int .i64 y45.Y), .v (.int .i64 y45.R)]) rfl rfl rfl (bo g44) rfl rfl (.fieldRX fl60_1 rfl rfl) ?_
        refine RunT.gt0 (x := .v (.int .i64 y45.Y)) rfl rfl rfl (bo g44) rfl rfl (.loadR ty3 rfl rfl) ?_
        obtain ⟨r47, h48, H⟩ := bs H
        refine RunT.gt0 (x := .v (.bool r47)) rfl rfl rfl (bo g44) rfl rfl (.callp (ref2_coord_pc false k y45.Y r47 h48) rfl ⟨(.one .v), trivial⟩ rfl rfl rfl) ?_
        refine RunT.gt0 (x := .v (.bool (!r47))) rfl rfl rfl (bo g44) rfl rfl (.un rfl (fun w => u_not w) rfl) ?_
        refine RunT.ot0 (x := .v (.bool (!r47))) rfl rfl rfl rfl (.pickF (bo g44) rfl) ?_
        refine RunT.ot0 (x := .v (.bool (!r47))) rfl rfl rfl rfl (.moveX rfl) ?_
        refine RunT.cases (t := 26) (c := !r47) rfl (fun g49 => ?_) (fun g49 => ?_)
        · replace H := ct H g49
          refine RunT.xn rfl rfl rfl (bo g49) rfl rfl ?_
          refine RunT.xn rfl rfl rfl (bo g49) rfl rfl ?_
          refine RunT.xn rfl rfl rfl (bo g49) rfl rfl ?_
          refine RunT.xn rfl rfl rfl (bo g49) rfl rfl ?_
          refine RunT.xn rfl rfl rfl (bo g49) rfl rfl ?_
          refine RunT.xn rfl rfl rfl (bo g49) rfl rfl ?_
          refine RunT.xn rfl rfl rfl (bo g49) rfl rfl ?_
          refine RunT.ot0 (x := .v (.bool true)) rfl rfl rfl rfl (.pickT (bo g49) rfl) ?_
          refine RunT.nil ?_
          refine T.condT rfl ?_
          refine T.seq ?_
          refine T.region ?_
          refine RunT.ot0 (x := .v (.bool false)) rfl rfl rfl rfl (.assignX rfl) ?_
          refine RunT.nil ?_
          obtain rfl := si H
          have HX := exr HO36
          obtain rfl := si HX
          refine T.sub (sub_to (st' := ⟨[(2, .v (.bool false))], [], 8, []⟩) [] (by decide) rfl rfl (⟨⟨_, rfl, .one .v⟩, trivial⟩) (trivial)) ?_
          refine T.ret ?_
          exact RetOk.same [.v (.bool false)] ⟨rfl, trivial⟩ rfl rfl rfl
        · replace H := cf H g49
          refine RunT.gt0 (x := .lst (List.map ePole a0)) rfl rfl rfl (bo g49) rfl rfl (.moveX rfl) ?_
          refine RunT.gt0 (x := .v (.int .i64 v38)) rfl rfl rfl (bo g49) rfl rfl (.moveX rfl) ?_
          obtain ⟨y50, h51, H⟩ := bs H
          refine RunT.gt0 (x := .rptr [.v (.int .i64 y50.X), .v (.int .i64 y50.Y), .v (.int .i64 y50.R)]) rfl rfl rfl (bo g49) rfl rfl (.idxLX h51 enc_Pole sl24 rfl rfl rfl) ?_
          refine RunT.gt0 (x := .rptr [.v (.int .i64 y50.R)]) rfl rfl rfl (bo g49) rfl rfl (.fieldRX fl60_2 rfl rfl) ?_
          refine RunT.gt0 (x := .v (.int .i64 y50.R)) rfl rfl rfl (bo g49) rfl rfl (.loadR ty3 rfl rfl) ?_
          obtain ⟨r52, h53, H⟩ := bs H
          refine RunT.gt0 (x := .v (.bool r52)) rfl rfl rfl (bo g49) rfl rfl (.callp (ref2_in_pc false k y50.R 1 1048576 r52 h53) rfl ⟨(.one .v), (.one .v), (.one .v), trivial⟩ rfl rfl rfl) ?_
          refine RunT.gt0 (x := .v (.bool (!r52))) rfl rfl rfl (bo g49) rfl rfl (.un rfl (fun w => u_not w) rfl) ?_
          refine RunT.ot0 (x := .v (.bool (!r52))) rfl rfl rfl rfl (.pickF (bo g49) rfl) ?_
          refine RunT.nil ?_
          refine T.cond2 (t := !r52) rfl (fun c54 => ?_) (fun c54 => ?_)
          · replace H := ct H c54
            refine T.seq ?_
            refine T.sub (sub_pick [] [] (st' := ⟨[], [], 8, []⟩) rfl rfl rfl rfl rfl) ?_
            refine T.region ?_
            refine RunT.ot0 (x := .v (.bool false)) rfl rfl rfl rfl (.assignX rfl) ?_
            refine RunT.nil ?_
            obtain rfl := si H
            have HX := exr HO36
            obtain rfl := si HX
            refine T.sub (sub_to (st' := ⟨[(2, .v (.bool false))], [], 8, []⟩) [] (by decide) rfl rfl (⟨⟨_, rfl, .one .v⟩, trivial⟩) (trivial)) ?_
            refine T.ret ?_
            exact RetOk.same [.v (.bool false)] ⟨rfl, trivial⟩ rfl rfl rfl
          · replace H := cf H c54
            refine T.skip ?_
            refine T.region ?_
            refine RunT.ot0 (x := .v (.int .i64 v38)) rfl rfl rfl rfl (.moveX rfl) ?_
            refine RunT.ot0 (x := .v (.int .i64 (wr (v38 + 1)))) rfl rfl rfl rfl (.bin rfl rfl (fun w => b_addw w) rfl) ?_
            refine RunT.ot0 (x := .v (.int .i64 (wr (v38 + 1)))) rfl rfl rfl rfl (.assignX rfl) ?_
            refine RunT.nil ?_
            exact ⟨n, Nat.lt_succ_self n, _, ⟨wr (v38 + 1), H, rfl⟩, (sub_to [] (by decide) rfl rfl (⟨⟨_, rfl, .one .lst⟩, ⟨⟨_, rfl, .one .v⟩, trivial⟩⟩) (trivial))⟩
    · replace H := cf H c39
      refine T.exit ?_
      obtain rfl := si H
      exact ⟨_, rfl, (sub_to [] (by decide) rfl rfl (⟨⟨_, rfl, .one .lst⟩, trivial⟩) (trivial))⟩
  · intro v37 s hR hS
    subst hR
    have H := exg HO36
    refine T.sub hS ?_
    refine T.seq ?_
    refine T.region ?_
    refine RunT.ot0 (x := .lst (List.map ePole a0)) rfl rfl rfl rfl (.moveX rfl) ?_
    refine RunT.ot0 (x := .v (.int .i64 (a0.length : Int))) rfl rfl rfl rfl (.lenLm Try.underlying24 rfl rfl) ?_
    refine RunT.ot0 (x := .v (.bool (decide ((a0.length : Int) ≤ 200)))) rfl rfl rfl rfl (.bin rfl rfl (fun w => b_leq w) rfl) ?_
    refine RunT.ot0 (x := .v (.bool (decide ((a0.length : Int) ≤ 200)))) rfl rfl rfl rfl (.assignX rfl) ?_
    refine RunT.nil ?_
    obtain rfl := si H
    refine T.sub (sub_to (st' := ⟨[(2, .v (.bool (decide ((a0.length : Int) ≤ 200))))], [], 8, []⟩) [] (by decide) rfl rfl (⟨⟨_, rfl, .one .v⟩, trivial⟩) (trivial)) ?_
    refine T.ret ?_
    exact RetOk.same [.v (.bool (decide ((a0.length : Int) ≤ 200)))] ⟨rfl, trivial⟩ rfl rfl rfl
set_option maxHeartbeats 4000000 in
theorem ref2_Wrong_pc (al : Bool) (k : Nat) (a0 : Venue) (o : ByteArray) (H : ref2_Wrong k a0 = some o) : PC Try.prog al 96 [.agg [.lst (List.map eSeat a0.Seats), .v (.int .i64 a0.Gap), .v (.int .i64 a0.Radius), .lst (List.map eI a0.Kills), .lst (List.map ePole a0.Poles)]] (.v (.string o)) := by
  unfold ref2_Wrong at H
  refine PC.of_T Try.func96 rfl rfl (n := 31) rfl rfl (.inr rfl) ?_
  intro base B w0
  refine T.st (st' := ⟨[(0, .agg [.lst (List.map eSeat a0.Seats), .v (.int .i64 a0.Gap), .v (.int .i64 a0.Radius), .lst (List.map eI a0.Kills), .lst (List.map ePole a0.Poles)])], [], 0, []⟩) rfl ?_
  refine T.seq ?_
  refine T.region ?_
  refine RunT.ot1 (x := .ptr 0 0) (p0 := (0, some (.box [.lst (List.map eSeat a0.Seats), .v (.int .i64 a0.Gap), .v (.int .i64 a0.Radius), .lst (List.map eI a0.Kills), .lst (List.map ePole a0.Poles)]))) (n' := 8) rfl rfl rfl rfl (.boxX rfl rfl rfl) rfl ?_
  refine RunT.ot0 (x := .v (.string (⟨#[]⟩ : ByteArray))) rfl rfl rfl rfl (.assignX rfl) ?_
  refine RunT.nil ?_
  refine T.seq ?_
  refine T.block ?_
  refine T.seq ?_
  refine T.region ?_
  refine RunT.ot0 (x := .ptr 0 0) rfl rfl rfl rfl (.fieldPX fl26_0 rfl rfl) ?_
  refine RunT.ot0 (x := .lst (List.map eSeat a0.Seats)) rfl rfl rfl rfl (.loadP ty22 rfl rfl rfl) ?_
  obtain ⟨r1, h2, H⟩ := bs H
  refine RunT.ot0 (x := .v (.bool r1)) rfl rfl rfl rfl (.callp (ref2_seats_pc false k a0.Seats r1 h2) rfl ⟨(.one .lst), trivial⟩ rfl rfl rfl) ?_
  refine RunT.ot0 (x := .v (.bool (!r1))) rfl rfl rfl rfl (.un rfl (fun w => u_not w) rfl) ?_
  refine RunT.ot0 (x := .v (.bool (!r1))) rfl rfl rfl rfl (.assignX rfl) ?_
  refine RunT.nil ?_
  refine T.cond2 (t := !r1) rfl (fun c3 => ?_) (fun c3 => ?_)
  · replace H := ct H c3
    refine T.seq ?_
    refine T.region ?_
    refine RunT.ot0 (x := .v (.string (⟨#[115, 101, 97, 116, 115]⟩ : ByteArray))) rfl rfl rfl rfl (.assignX rfl) ?_
    refine RunT.nil ?_
    obtain rfl := si H
    refine T.sub (sub_to (st' := ⟨[(2, .v (.string (⟨#[115, 101, 97, 116, 115]⟩ : ByteArray)))], [], 8, []⟩) [] (by decide) rfl rfl (⟨⟨_, rfl, .one .v⟩, trivial⟩) (trivial)) ?_
    refine T.ret ?_
    exact RetOk.same [.v (.string (⟨#[115, 101, 97, 116, 115]⟩ : ByteArray))] ⟨rfl, trivial⟩ rfl rfl rfl
  · replace H := cf H c3
    refine T.seq ?_
    refine T.region ?_
    refine RunT.ot0 (x := .ptr 0 1) rfl rfl rfl rfl (.fieldPX fl26_1 rfl rfl) ?_
    refine RunT.ot0 (x := .v (.int .i64 a0.Gap)) rfl rfl rfl rfl (.loadP ty3 rfl rfl rfl) ?_
    obtain ⟨r4, h5, H⟩ := bs H
    refine RunT.ot0 (x := .v (.bool r4)) rfl rfl rfl rfl (.callp (ref2_in_pc false k a0.Gap 1 1048576 r4 h5) rfl ⟨(.one .v), (.one .v), (.one .v), trivial⟩ rfl rfl rfl) ?_
    refine RunT.ot0 (x := .v (.bool (!r4))) rfl rfl rfl rfl (.un rfl (fun w => u_not w) rfl) ?_
    refine RunT.ot0 (x := .v (.bool (!r4))) rfl rfl rfl rfl (.assignX rfl) ?_
    refine RunT.nil ?_
    refine T.cond2 (t := !r4) rfl (fun c6 => ?_) (fun c6 => ?_)
    · replace H := ct H c6
      refine T.seq ?_
      refine T.region ?_
      refine RunT.ot0 (x := .v (.string (⟨#[103, 97, 112]⟩ : ByteArray))) rfl rfl rfl rfl (.assignX rfl) ?_
      refine RunT.nil ?_
      obtain rfl := si H
      refine T.sub (sub_to (st' := ⟨[(2, .v (.string (⟨#[103, 97, 112]⟩ : ByteArray)))], [], 8, []⟩) [] (by decide) rfl rfl (⟨⟨_, rfl, .one .v⟩, trivial⟩) (trivial)) ?_
      refine T.ret ?_
      exact RetOk.same [.v (.string (⟨#[103, 97, 112]⟩ : ByteArray))] ⟨rfl, trivial⟩ rfl rfl rfl
    · replace H := cf H c6
      refine T.seq ?_
      refine T.region ?_
      refine RunT.ot0 (x := .ptr 0 2) rfl rfl rfl rfl (.fieldPX fl26_2 rfl rfl) ?_
      refine RunT.ot0 (x := .v (.int .i64 a0.Radius)) rfl rfl rfl rfl (.loadP ty3 rfl rfl rfl) ?_
      obtain ⟨r7, h8, H⟩ := bs H
      refine RunT.ot0 (x := .v (.bool r7)) rfl rfl rfl rfl (.callp (ref2_in_pc false k a0.Radius 0 1048576 r7 h8) rfl ⟨(.one .v), (.one .v), (.one .v), trivial⟩ rfl rfl rfl) ?_
      refine RunT.ot0 (x := .v (.bool (!r7))) rfl rfl rfl rfl (.un rfl (fun w => u_not w) rfl) ?_
      refine RunT.ot0 (x := .v (.bool (!r7))) rfl rfl rfl rfl (.assignX rfl) ?_
      refine RunT.nil ?_
      refine T.cond2 (t := !r7) rfl (fun c9 => ?_) (fun c9 => ?_)
      · replace H := ct H c9
        refine T.seq ?_
        refine T.sub (sub_pick [] [] (st' := ⟨[], [], 8, []⟩) rfl rfl rfl rfl rfl) ?_
        refine T.region ?_
        refine RunT.ot0 (x := .v (.string (⟨#[114, 97, 100, 105, 117, 115]⟩ : ByteArray))) rfl rfl rfl rfl (.assignX rfl) ?_
        refine RunT.nil ?_
        obtain rfl := si H
        refine T.sub (sub_to (st' := ⟨[(2, .v (.string (⟨#[114, 97, 100, 105, 117, 115]⟩ : ByteArray)))], [], 8, []⟩) [] (by decide) rfl rfl (⟨⟨_, rfl, .one .v⟩, trivial⟩) (trivial)) ?_
        refine T.ret ?_
        exact RetOk.same [.v (.string (⟨#[114, 97, 100, 105, 117, 115]⟩ : ByteArray))] ⟨rfl, trivial⟩ rfl rfl rfl
      · replace H := cf H c9
        refine T.seq ?_
        refine T.region ?_
        refine RunT.ot0 (x := .ptr 0 3) rfl rfl rfl rfl (.fieldPX fl26_3 rfl rfl) ?_
        refine RunT.ot0 (x := .lst (List.map eI a0.Kills)) rfl rfl rfl rfl (.loadP ty23 rfl rfl rfl) ?_
        refine RunT.ot0 (x := .ptr 0 0) rfl rfl rfl rfl (.fieldPX fl26_0 rfl rfl) ?_
        refine RunT.ot0 (x := .lst (List.map eSeat a0.Seats)) rfl rfl rfl rfl (.loadP ty22 rfl rfl rfl) ?_
        refine RunT.ot0 (x := .v (.int .i64 (a0.Seats.length : Int))) rfl rfl rfl rfl (.lenLm Try.underlying22 rfl rfl) ?_
        obtain ⟨r10, h11, H⟩ := bs H
        refine RunT.ot0 (x := .v (.bool r10)) rfl rfl rfl rfl (.callp (ref2_kills_pc false k a0.Kills (a0.Seats.length : Int) r10 h11) rfl ⟨(.one .lst), (.one .v), trivial⟩ rfl rfl rfl) ?_
        refine RunT.ot0 (x := .v (.bool (!r10))) rfl rfl rfl rfl (.un rfl (fun w => u_not w) rfl) ?_
        refine RunT.ot0 (x := .v (.bool (!r10))) rfl rfl rfl rfl (.assignX rfl) ?_
        refine RunT.nil ?_
        refine T.cond2 (t := !r10) rfl (fun c12 => ?_) (fun c12 => ?_)
        · replace H := ct H c12
          refine T.seq ?_
          refine T.region ?_
          refine RunT.ot0 (x := .v (.string (⟨#[107, 105, 108, 108, 115]⟩ : ByteArray))) rfl rfl rfl rfl (.assignX rfl) ?_
          refine RunT.nil ?_
          obtain rfl := si H
          refine T.sub (sub_to (st' := ⟨[(2, .v (.string (⟨#[107, 105, 108, 108, 115]⟩ : ByteArray)))], [], 8, []⟩) [] (by decide) rfl rfl (⟨⟨_, rfl, .one .v⟩, trivial⟩) (trivial)) ?_
          refine T.ret ?_
          exact RetOk.same [.v (.string (⟨#[107, 105, 108, 108, 115]⟩ : ByteArray))] ⟨rfl, trivial⟩ rfl rfl rfl
        · replace H := cf H c12
          refine T.seq ?_
          refine T.region ?_
          refine RunT.ot0 (x := .ptr 0 4) rfl rfl rfl rfl (.fieldPX fl26_4 rfl rfl) ?_
          refine RunT.ot0 (x := .lst (List.map ePole a0.Poles)) rfl rfl rfl rfl (.loadP ty24 rfl rfl rfl) ?_
          obtain ⟨r13, h14, H⟩ := bs H
          refine RunT.ot0 (x := .v (.bool r13)) rfl rfl rfl rfl (.callp (ref2_poles_pc false k a0.Poles r13 h14) rfl ⟨(.one .lst), trivial⟩ rfl rfl rfl) ?_
          refine RunT.ot0 (x := .v (.bool (!r13))) rfl rfl rfl rfl (.un rfl (fun w => u_not w) rfl) ?_
          refine RunT.ot0 (x := .v (.bool (!r13))) rfl rfl rfl rfl (.assignX rfl) ?_
          refine RunT.nil ?_
          refine T.cond2 (t := !r13) rfl (fun c15 => ?_) (fun c15 => ?_)
          · replace H := ct H c15
            refine T.seq ?_
            refine T.region ?_
            refine RunT.ot0 (x := .v (.string (⟨#[112, 111, 108, 101, 115]⟩ : ByteArray))) rfl rfl rfl rfl (.assignX rfl) ?_
            refine RunT.nil ?_
            obtain rfl := si H
            refine T.sub (sub_to (st' := ⟨[(2, .v (.string (⟨#[112, 111, 108, 101, 115]⟩ : ByteArray)))], [], 8, []⟩) [] (by decide) rfl rfl (⟨⟨_, rfl, .one .v⟩, trivial⟩) (trivial)) ?_
            refine T.ret ?_
            exact RetOk.same [.v (.string (⟨#[112, 111, 108, 101, 115]⟩ : ByteArray))] ⟨rfl, trivial⟩ rfl rfl rfl
          · replace H := cf H c15
            refine T.skip ?_
            refine T.seq ?_
            refine T.sub (sub_pick [] [] (st' := ⟨[], [], 8, []⟩) rfl rfl rfl rfl rfl) ?_
            refine T.region ?_
            refine RunT.ot0 (x := .v (.string (⟨#[]⟩ : ByteArray))) rfl rfl rfl rfl (.assignX rfl) ?_
            refine RunT.nil ?_
            obtain rfl := si H
            refine T.sub (sub_to (st' := ⟨[(2, .v (.string (⟨#[]⟩ : ByteArray)))], [], 8, []⟩) [] (by decide) rfl rfl (⟨⟨_, rfl, .one .v⟩, trivial⟩) (trivial)) ?_
            refine T.ret ?_
            exact RetOk.same [.v (.string (⟨#[]⟩ : ByteArray))] ⟨rfl, trivial⟩ rfl rfl rfl
set_option maxHeartbeats 4000000 in
theorem ref2_May_pc (al : Bool) (k : Nat) (a0 : Venue) (o : Bool) (H : ref2_May k a0 = some o) : PC Try.prog al 38 [.agg [.lst (List.map eSeat a0.Seats), .v (.int .i64 a0.Gap), .v (.int .i64 a0.Radius), .lst (List.map eI a0.Kills), .lst (List.map ePole a0.Poles)]] (.v (.bool o)) := by
  unfold ref2_May at H
  refine PC.of_T Try.func38 rfl rfl (n := 6) rfl rfl (.inr rfl) ?_
  intro base B w0
  refine T.st (st' := ⟨[(0, .agg [.lst (List.map eSeat a0.Seats), .v (.int .i64 a0.Gap), .v (.int .i64 a0.Radius), .lst (List.map eI a0.Kills), .lst (List.map ePole a0.Poles)])], [], 0, []⟩) rfl ?_
  refine T.seq ?_
  refine T.region ?_
  refine RunT.ot1 (x := .ptr 0 0) (p0 := (0, some (.box [.lst (List.map eSeat a0.Seats), .v (.int .i64 a0.Gap), .v (.int .i64 a0.Radius), .lst (List.map eI a0.Kills), .lst (List.map ePole a0.Poles)]))) (n' := 8) rfl rfl rfl rfl (.boxX rfl rfl rfl) rfl ?_
  refine RunT.ot0 (x := .v (.bool false)) rfl rfl rfl rfl (.assignX rfl) ?_
  refine RunT.nil ?_
  refine T.seq ?_
  refine T.region ?_
  refine RunT.ot0 (x := .agg [.lst (List.map eSeat a0.Seats), .v (.int .i64 a0.Gap), .v (.int .i64 a0.Radius), .lst (List.map eI a0.Kills), .lst (List.map ePole a0.Poles)]) rfl rfl rfl rfl (.loadP ty26 rfl rfl rfl) ?_
  obtain ⟨r1, h2, H⟩ := bs H
  refine RunT.ot0 (x := .v (.string r1)) rfl rfl rfl rfl (.callp (ref2_Wrong_pc false k a0 r1 h2) rfl ⟨(.agg' ⟨.lst, .v, .v, .lst, .lst, trivial⟩), trivial⟩ rfl rfl rfl) ?_
  refine RunT.ot0 (x := .v (.bool (r1 == (⟨#[]⟩ : ByteArray)))) rfl rfl rfl rfl (.bin rfl rfl (fun w => eqStr w) rfl) ?_
  refine RunT.ot0 (x := .v (.bool (r1 == (⟨#[]⟩ : ByteArray)))) rfl rfl rfl rfl (.assignX rfl) ?_
  refine RunT.nil ?_
  obtain rfl := si H
  refine T.sub (sub_to (st' := ⟨[(2, .v (.bool (r1 == (⟨#[]⟩ : ByteArray))))], [], 8, []⟩) [] (by decide) rfl rfl (⟨⟨_, rfl, .one .v⟩, trivial⟩) (trivial)) ?_
  refine T.ret ?_
  exact RetOk.same [.v (.bool (r1 == (⟨#[]⟩ : ByteArray)))] ⟨rfl, trivial⟩ rfl rfl rfl
set_option maxHeartbeats 4000000 in
theorem ref6_coord_pc (al : Bool) (k : Nat) (a0 : Int) (o : Bool) (H : ref6_coord k a0 = some o) : PC Try.prog al 89 [.v (.int .i64 a0)] (.v (.bool o)) := by
  unfold ref6_coord at H
  refine PC.of_T Try.func89 rfl rfl (n := 9) rfl rfl (.inr rfl) ?_
  intro base B w0
  refine T.st (st' := ⟨[(0, .v (.int .i64 a0))], [], 0, []⟩) rfl ?_
  refine T.seq ?_
  refine T.region ?_
  refine RunT.ot0 (x := .v (.bool false)) rfl rfl rfl rfl (.assignX rfl) ?_
  refine RunT.nil ?_
  refine T.seq ?_
  refine T.region ?_
  refine RunT.ot0 (x := .v (.int .i64 a0)) rfl rfl rfl rfl (.moveX rfl) ?_
  refine RunT.ot0 (x := .v (.bool (decide ((-1048576) ≤ a0)))) rfl rfl rfl rfl (.bin rfl rfl (fun w => b_geq w) rfl) ?_
  refine RunT.ot0 (x := .v (.bool (decide ((-1048576) ≤ a0)))) rfl rfl rfl rfl (.moveX rfl) ?_
  refine RunT.cases (t := 5) (c := decide ((-1048576) ≤ a0)) rfl (fun g1 => ?_) (fun g1 => ?_)
  · replace H := ct H g1
    refine RunT.gt0 (x := .v (.int .i64 a0)) rfl rfl rfl (bo g1) rfl rfl (.moveX rfl) ?_
    refine RunT.gt0 (x := .v (.bool (decide (a0 ≤ 1048576)))) rfl rfl rfl (bo g1) rfl rfl (.bin rfl rfl (fun w => b_leq w) rfl) ?_
    refine RunT.ot0 (x := .v (.bool (decide (a0 ≤ 1048576)))) rfl rfl rfl rfl (.pickT (bo g1) rfl) ?_
    refine RunT.ot0 (x := .v (.bool (decide (a0 ≤ 1048576)))) rfl rfl rfl rfl (.assignX rfl) ?_
    refine RunT.nil ?_
    obtain rfl := si H
    refine T.sub (sub_to (st' := ⟨[(2, .v (.bool (decide (a0 ≤ 1048576))))], [], 8, []⟩) [] (by decide) rfl rfl (⟨⟨_, rfl, .one .v⟩, trivial⟩) (trivial)) ?_
    refine T.ret ?_
    exact RetOk.same [.v (.bool (decide (a0 ≤ 1048576)))] ⟨rfl, trivial⟩ rfl rfl rfl
  · replace H := cf H g1
    refine RunT.xn rfl rfl rfl (bo g1) rfl rfl ?_
    refine RunT.xn rfl rfl rfl (bo g1) rfl rfl ?_
    refine RunT.ot0 (x := .v (.bool false)) rfl rfl rfl rfl (.pickF (bo g1) rfl) ?_
    refine RunT.ot0 (x := .v (.bool false)) rfl rfl rfl rfl (.assignX rfl) ?_
    refine RunT.nil ?_
    obtain rfl := si H
    refine T.sub (sub_to (st' := ⟨[(2, .v (.bool false))], [], 8, []⟩) [] (by decide) rfl rfl (⟨⟨_, rfl, .one .v⟩, trivial⟩) (trivial)) ?_
    refine T.ret ?_
    exact RetOk.same [.v (.bool false)] ⟨rfl, trivial⟩ rfl rfl rfl
set_option maxHeartbeats 4000000 in
theorem ref6_square_pc (al : Bool) (k : Nat) (a0 : Int) (a1 : Int) (o : Int) (H : ref6_square k a0 a1 = some o) : PC Try.prog al 90 [.v (.int .i64 a0), .v (.int .i64 a1)] (.v (.int .i64 o)) := by
  unfold ref6_square at H
  refine PC.of_T Try.func90 rfl rfl (n := 12) rfl rfl (.inr rfl) ?_
  intro base B w0
  refine T.st (st' := ⟨[(0, .v (.int .i64 a0)), (1, .v (.int .i64 a1))], [], 0, []⟩) rfl ?_
  refine T.seq ?_
  refine T.region ?_
  refine RunT.ot0 (x := .v (.int .i64 0)) rfl rfl rfl rfl (.assignX rfl) ?_
  refine RunT.nil ?_
  refine T.seq ?_
  refine T.region ?_
  refine RunT.ot0 (x := .v (.int .i64 a0)) rfl rfl rfl rfl (.moveX rfl) ?_
  refine RunT.ot0 (x := .v (.int .i64 a1)) rfl rfl rfl rfl (.moveX rfl) ?_
  refine RunT.ot0 (x := .v (.int .i64 (wr (a0 - a1)))) rfl rfl rfl rfl (.bin rfl rfl (fun w => b_subw w) rfl) ?_
  refine RunT.ot0 (x := .v (.int .i64 a0)) rfl rfl rfl rfl (.moveX rfl) ?_
  refine RunT.ot0 (x := .v (.int .i64 a1)) rfl rfl rfl rfl (.moveX rfl) ?_
  refine RunT.ot0 (x := .v (.int .i64 (wr (a0 - a1)))) rfl rfl rfl rfl (.bin rfl rfl (fun w => b_subw w) rfl) ?_
  refine RunT.ot0 (x := .v (.int .i64 (wr ((wr (a0 - a1)) * (wr (a0 - a1)))))) rfl rfl rfl rfl (.bin rfl rfl (fun w => b_mulw w) rfl) ?_
  refine RunT.ot0 (x := .v (.int .i64 (wr ((wr (a0 - a1)) * (wr (a0 - a1)))))) rfl rfl rfl rfl (.assignX rfl) ?_
  refine RunT.nil ?_
  obtain rfl := si H
  refine T.sub (sub_to (st' := ⟨[(4, .v (.int .i64 (wr ((wr (a0 - a1)) * (wr (a0 - a1))))))], [], 8, []⟩) [] (by decide) rfl rfl (⟨⟨_, rfl, .one .v⟩, trivial⟩) (trivial)) ?_
  refine T.ret ?_
  exact RetOk.same [.v (.int .i64 (wr ((wr (a0 - a1)) * (wr (a0 - a1)))))] ⟨rfl, trivial⟩ rfl rfl rfl
set_option maxHeartbeats 4000000 in
theorem ref6_Far_pc (al : Bool) (k : Nat) (a0 : Seat) (a1 : Seat) (o : Int) (H : ref6_Far k a0 a1 = some o) : PC Try.prog al 31 [.agg [.v (.int .i64 a0.Row), .v (.int .i64 a0.X), .v (.int .i64 a0.Y), .v (.int .i64 a0.Kind)], .agg [.v (.int .i64 a1.Row), .v (.int .i64 a1.X), .v (.int .i64 a1.Y), .v (.int .i64 a1.Kind)]] (.v (.int .i64 o)) := by
  unfold ref6_Far at H
  refine PC.of_T Try.func31 rfl rfl (n := 38) rfl rfl (.inr rfl) ?_
  intro base B w0
  refine T.st (st' := ⟨[(0, .agg [.v (.int .i64 a0.Row), .v (.int .i64 a0.X), .v (.int .i64 a0.Y), .v (.int .i64 a0.Kind)]), (1, .agg [.v (.int .i64 a1.Row), .v (.int .i64 a1.X), .v (.int .i64 a1.Y), .v (.int .i64 a1.Kind)])], [], 0, []⟩) rfl ?_
  refine T.seq ?_
  refine T.region ?_
  refine RunT.ot1 (x := .ptr 0 0) (p0 := (0, some (.box [.v (.int .i64 a0.Row), .v (.int .i64 a0.X), .v (.int .i64 a0.Y), .v (.int .i64 a0.Kind)]))) (n' := 8) rfl rfl rfl rfl (.boxX rfl rfl rfl) rfl ?_
  refine RunT.ot1 (x := .ptr 8 0) (p0 := (8, some (.box [.v (.int .i64 a1.Row), .v (.int .i64 a1.X), .v (.int .i64 a1.Y), .v (.int .i64 a1.Kind)]))) (n' := 16) rfl rfl rfl rfl (.boxX rfl rfl rfl) rfl ?_
  refine RunT.ot0 (x := .v (.int .i64 0)) rfl rfl rfl rfl (.assignX rfl) ?_
  refine RunT.nil ?_
  refine T.seq ?_
  refine T.seq ?_
  refine T.region ?_
  refine RunT.ot0 (x := .ptr 0 1) rfl rfl rfl rfl (.fieldPX fl28_1 rfl rfl) ?_
  refine RunT.ot0 (x := .v (.int .i64 a0.X)) rfl rfl rfl rfl (.loadP ty3 rfl rfl rfl) ?_
  obtain ⟨r1, h2, H⟩ := bs H
  refine RunT.ot0 (x := .v (.bool r1)) rfl rfl rfl rfl (.callp (ref6_coord_pc false k a0.X r1 h2) rfl ⟨(.one .v), trivial⟩ rfl rfl rfl) ?_
  refine RunT.ot0 (x := .v (.bool (!r1))) rfl rfl rfl rfl (.un rfl (fun w => u_not w) rfl) ?_
  refine RunT.ot0 (x := .v (.bool (!r1))) rfl rfl rfl rfl (.moveX rfl) ?_
  refine RunT.cases (t := 9) (c := !r1) rfl (fun g3 => ?_) (fun g3 => ?_)
  · replace H := ct H g3
    refine RunT.xn rfl rfl rfl (bo g3) rfl rfl ?_
    refine RunT.xn rfl rfl rfl (bo g3) rfl rfl ?_
    refine RunT.xn rfl rfl rfl (bo g3) rfl rfl ?_
    refine RunT.xn rfl rfl rfl (bo g3) rfl rfl ?_
    refine RunT.ot0 (x := .v (.bool true)) rfl rfl rfl rfl (.pickT (bo g3) rfl) ?_
    refine RunT.ot0 (x := .v (.bool true)) rfl rfl rfl rfl (.moveX rfl) ?_
    refine RunT.xn rfl rfl rfl rfl rfl rfl ?_
    refine RunT.xn rfl rfl rfl rfl rfl rfl ?_
    refine RunT.xn rfl rfl rfl rfl rfl rfl ?_
    refine RunT.xn rfl rfl rfl rfl rfl rfl ?_
    refine RunT.ot0 (x := .v (.bool true)) rfl rfl rfl rfl (.pickT rfl rfl) ?_
    refine RunT.ot0 (x := .v (.bool true)) rfl rfl rfl rfl (.moveX rfl) ?_
    refine RunT.xn rfl rfl rfl rfl rfl rfl ?_
    refine RunT.xn rfl rfl rfl rfl rfl rfl ?_
    refine RunT.xn rfl rfl rfl rfl rfl rfl ?_
    refine RunT.xn rfl rfl rfl rfl rfl rfl ?_
    refine RunT.ot0 (x := .v (.bool true)) rfl rfl rfl rfl (.pickT rfl rfl) ?_
    refine RunT.nil ?_
    refine T.condT rfl ?_
    refine T.seq ?_
    refine T.region ?_
    refine RunT.ot0 (x := .v (.int .i64 0)) rfl rfl rfl rfl (.assignX rfl) ?_
    refine RunT.nil ?_
    obtain rfl := si H
    refine T.sub (sub_to (st' := ⟨[(4, .v (.int .i64 0))], [], 8, []⟩) [] (by decide) rfl rfl (⟨⟨_, rfl, .one .v⟩, trivial⟩) (trivial)) ?_
    refine T.ret ?_
    exact RetOk.same [.v (.int .i64 0)] ⟨rfl, trivial⟩ rfl rfl rfl
  · replace H := cf H g3
    refine RunT.gt0 (x := .ptr 0 2) rfl rfl rfl (bo g3) rfl rfl (.fieldPX fl28_2 rfl rfl) ?_
    refine RunT.gt0 (x := .v (.int .i64 a0.Y)) rfl rfl rfl (bo g3) rfl rfl (.loadP ty3 rfl rfl rfl) ?_
    obtain ⟨r4, h5, H⟩ := bs H
    refine RunT.gt0 (x := .v (.bool r4)) rfl rfl rfl (bo g3) rfl rfl (.callp (ref6_coord_pc false k a0.Y r4 h5) rfl ⟨(.one .v), trivial⟩ rfl rfl rfl) ?_
    refine RunT.gt0 (x := .v (.bool (!r4))) rfl rfl rfl (bo g3) rfl rfl (.un rfl (fun w => u_not w) rfl) ?_
    refine RunT.ot0 (x := .v (.bool (!r4))) rfl rfl rfl rfl (.pickF (bo g3) rfl) ?_
    refine RunT.ot0 (x := .v (.bool (!r4))) rfl rfl rfl rfl (.moveX rfl) ?_
    refine RunT.cases (t := 15) (c := !r4) rfl (fun g6 => ?_) (fun g6 => ?_)
    · replace H := ct H g6
      refine RunT.xn rfl rfl rfl (bo g6) rfl rfl ?_
      refine RunT.xn rfl rfl rfl (bo g6) rfl rfl ?_
      refine RunT.xn rfl rfl rfl (bo g6) rfl rfl ?_
      refine RunT.xn rfl rfl rfl (bo g6) rfl rfl ?_
      refine RunT.ot0 (x := .v (.bool true)) rfl rfl rfl rfl (.pickT (bo g6) rfl) ?_
      refine RunT.ot0 (x := .v (.bool true)) rfl rfl rfl rfl (.moveX rfl) ?_
      refine RunT.xn rfl rfl rfl rfl rfl rfl ?_
      refine RunT.xn rfl rfl rfl rfl rfl rfl ?_
      refine RunT.xn rfl rfl rfl rfl rfl rfl ?_
      refine RunT.xn rfl rfl rfl rfl rfl rfl ?_
      refine RunT.ot0 (x := .v (.bool true)) rfl rfl rfl rfl (.pickT rfl rfl) ?_
      refine RunT.nil ?_
      refine T.condT rfl ?_
      refine T.seq ?_
      refine T.sub (sub_pick [] [] (st' := ⟨[], [], 16, []⟩) rfl rfl rfl rfl rfl) ?_
      refine T.region ?_
      refine RunT.ot0 (x := .v (.int .i64 0)) rfl rfl rfl rfl (.assignX rfl) ?_
      refine RunT.nil ?_
      obtain rfl := si H
      refine T.sub (sub_to (st' := ⟨[(4, .v (.int .i64 0))], [], 8, []⟩) [] (by decide) rfl rfl (⟨⟨_, rfl, .one .v⟩, trivial⟩) (trivial)) ?_
      refine T.ret ?_
      exact RetOk.same [.v (.int .i64 0)] ⟨rfl, trivial⟩ rfl rfl rfl
    · replace H := cf H g6
      refine RunT.gt0 (x := .ptr 8 1) rfl rfl rfl (bo g6) rfl rfl (.fieldPX fl28_1 rfl rfl) ?_
      refine RunT.gt0 (x := .v (.int .i64 a1.X)) rfl rfl rfl (bo g6) rfl rfl (.loadP ty3 rfl rfl rfl) ?_
      obtain ⟨r7, h8, H⟩ := bs H
      refine RunT.gt0 (x := .v (.bool r7)) rfl rfl rfl (bo g6) rfl rfl (.callp (ref6_coord_pc false k a1.X r7 h8) rfl ⟨(.one .v), trivial⟩ rfl rfl rfl) ?_
      refine RunT.gt0 (x := .v (.bool (!r7))) rfl rfl rfl (bo g6) rfl rfl (.un rfl (fun w => u_not w) rfl) ?_
      refine RunT.ot0 (x := .v (.bool (!r7))) rfl rfl rfl rfl (.pickF (bo g6) rfl) ?_
      refine RunT.ot0 (x := .v (.bool (!r7))) rfl rfl rfl rfl (.moveX rfl) ?_
      refine RunT.cases (t := 21) (c := !r7) rfl (fun g9 => ?_) (fun g9 => ?_)
      · replace H := ct H g9
        refine RunT.xn rfl rfl rfl (bo g9) rfl rfl ?_
        refine RunT.xn rfl rfl rfl (bo g9) rfl rfl ?_
        refine RunT.xn rfl rfl rfl (bo g9) rfl rfl ?_
        refine RunT.xn rfl rfl rfl (bo g9) rfl rfl ?_
        refine RunT.ot0 (x := .v (.bool true)) rfl rfl rfl rfl (.pickT (bo g9) rfl) ?_
        refine RunT.nil ?_
        refine T.condT rfl ?_
        refine T.seq ?_
        refine T.region ?_
        refine RunT.ot0 (x := .v (.int .i64 0)) rfl rfl rfl rfl (.assignX rfl) ?_
        refine RunT.nil ?_
        obtain rfl := si H
        refine T.sub (sub_to (st' := ⟨[(4, .v (.int .i64 0))], [], 8, []⟩) [] (by decide) rfl rfl (⟨⟨_, rfl, .one .v⟩, trivial⟩) (trivial)) ?_
        refine T.ret ?_
        exact RetOk.same [.v (.int .i64 0)] ⟨rfl, trivial⟩ rfl rfl rfl
      · replace H := cf H g9
        refine RunT.gt0 (x := .ptr 8 2) rfl rfl rfl (bo g9) rfl rfl (.fieldPX fl28_2 rfl rfl) ?_
        refine RunT.gt0 (x := .v (.int .i64 a1.Y)) rfl rfl rfl (bo g9) rfl rfl (.loadP ty3 rfl rfl rfl) ?_
        obtain ⟨r10, h11, H⟩ := bs H
        refine RunT.gt0 (x := .v (.bool r10)) rfl rfl rfl (bo g9) rfl rfl (.callp (ref6_coord_pc false k a1.Y r10 h11) rfl ⟨(.one .v), trivial⟩ rfl rfl rfl) ?_
        refine RunT.gt0 (x := .v (.bool (!r10))) rfl rfl rfl (bo g9) rfl rfl (.un rfl (fun w => u_not w) rfl) ?_
        refine RunT.ot0 (x := .v (.bool (!r10))) rfl rfl rfl rfl (.pickF (bo g9) rfl) ?_
        refine RunT.nil ?_
        refine T.cond2 (t := !r10) rfl (fun c12 => ?_) (fun c12 => ?_)
        · replace H := ct H c12
          refine T.seq ?_
          refine T.region ?_
          refine RunT.ot0 (x := .v (.int .i64 0)) rfl rfl rfl rfl (.assignX rfl) ?_
          refine RunT.nil ?_
          obtain rfl := si H
          refine T.sub (sub_to (st' := ⟨[(4, .v (.int .i64 0))], [], 8, []⟩) [] (by decide) rfl rfl (⟨⟨_, rfl, .one .v⟩, trivial⟩) (trivial)) ?_
          refine T.ret ?_
          exact RetOk.same [.v (.int .i64 0)] ⟨rfl, trivial⟩ rfl rfl rfl
        · replace H := cf H c12
          refine T.skip ?_
          refine T.seq ?_
          refine T.draw (wr := []) mixed rfl rfl ?_ rfl
          refine RunD.ot0 (x := .ptr 0 1) rfl rfl rfl rfl (.fieldPX fl28_1 rfl rfl) rfl ?_
          refine RunD.ot0 (x := .v (.int .i64 a0.X)) rfl rfl rfl rfl (.loadP ty3 rfl rfl rfl) rfl ?_
          refine RunD.ot0 (x := .ptr 8 1) rfl rfl rfl rfl (.fieldPX fl28_1 rfl rfl) rfl ?_
          refine RunD.ot0 (x := .v (.int .i64 a1.X)) rfl rfl rfl rfl (.loadP ty3 rfl rfl rfl) rfl ?_
          obtain ⟨r17, h18, H⟩ := bs H
          refine RunD.ot0 (x := .v (.int .i64 r17)) rfl rfl rfl rfl (.callp (ref6_square_pc false k a0.X a1.X r17 h18) rfl ⟨(.one .v), (.one .v), trivial⟩ rfl rfl rfl) rfl ?_
          refine RunD.ot0 (x := .ptr 0 2) rfl rfl rfl rfl (.fieldPX fl28_2 rfl rfl) rfl ?_
          refine RunD.ot0 (x := .v (.int .i64 a0.Y)) rfl rfl rfl rfl (.loadP ty3 rfl rfl rfl) rfl ?_
          refine RunD.ot0 (x := .ptr 8 2) rfl rfl rfl rfl (.fieldPX fl28_2 rfl rfl) rfl ?_
          refine RunD.ot0 (x := .v (.int .i64 a1.Y)) rfl rfl rfl rfl (.loadP ty3 rfl rfl rfl) rfl ?_
          obtain ⟨r19, h20, H⟩ := bs H
          refine RunD.ot0 (x := .v (.int .i64 r19)) rfl rfl rfl rfl (.callp (ref6_square_pc false k a0.Y a1.Y r19 h20) rfl ⟨(.one .v), (.one .v), trivial⟩ rfl rfl rfl) rfl ?_
          refine RunD.ot0 (x := .v (.int .i64 (wr (r17 + r19)))) rfl rfl rfl rfl (.bin rfl rfl (fun w => b_addw w) rfl) rfl ?_
          refine RunD.ot0 (x := .v (.int .i64 (wr (r17 + r19)))) rfl rfl rfl rfl (.assignX rfl) rfl ?_
          refine RunD.nil (by kernel_rfl) ⟨rfl, rfl, ?_⟩
          obtain rfl := si H
          refine T.sub (sub_to (st' := ⟨[(4, .v (.int .i64 (wr (r17 + r19))))], [], 8, []⟩) [] (by decide) rfl rfl (⟨⟨_, rfl, .one .v⟩, trivial⟩) (trivial)) ?_
          refine T.ret ?_
          exact RetOk.same [.v (.int .i64 (wr (r17 + r19)))] ⟨rfl, trivial⟩ rfl rfl rfl
set_option maxHeartbeats 4000000 in
theorem ref6_killedBy_pc (al : Bool) (k : Nat) (a0 : Venue) (a1 : Int) (o : (List Int)) (H : ref6_killedBy k a0 a1 = some o) : PC Try.prog al 104 [.agg [.lst (List.map eSeat a0.Seats), .v (.int .i64 a0.Gap), .v (.int .i64 a0.Radius), .lst (List.map eI a0.Kills), .lst (List.map ePole a0.Poles)], .v (.int .i64 a1)] (.frs 1 (List.map eI o)) := by
  unfold ref6_killedBy at H
  refine PC.of_T Try.func104 rfl rfl (n := 58) rfl rfl (.inr (flat1_frs (sz := 1) fl_I)) ?_
  intro base B w0
  refine T.st (st' := ⟨[(0, .agg [.lst (List.map eSeat a0.Seats), .v (.int .i64 a0.Gap), .v (.int .i64 a0.Radius), .lst (List.map eI a0.Kills), .lst (List.map ePole a0.Poles)]), (1, .v (.int .i64 a1))], [], 0, []⟩) rfl ?_
  refine T.seq ?_
  refine T.region ?_
  refine RunT.ot1 (x := .ptr 0 0) (p0 := (0, some (.box [.lst (List.map eSeat a0.Seats), .v (.int .i64 a0.Gap), .v (.int .i64 a0.Radius), .lst (List.map eI a0.Kills), .lst (List.map ePole a0.Poles)]))) (n' := 8) rfl rfl rfl rfl (.boxX rfl rfl rfl) rfl ?_
  refine RunT.ot0 (x := .v (.slice none 0 0)) rfl rfl rfl rfl (.assignX rfl) ?_
  refine RunT.nil ?_
  refine T.seq ?_
  refine T.region ?_
  refine RunT.ot0 (x := .v (.slice none 0 0)) rfl rfl rfl rfl (.assignX rfl) ?_
  refine RunT.nil ?_
  refine T.seq ?_
  refine T.seq ?_
  refine T.region ?_
  refine RunT.ot0 (x := .v (.int .i64 0)) rfl rfl rfl rfl (.assignX rfl) ?_
  refine RunT.nil ?_
  obtain ⟨o13, E14, HO15⟩ := bs H
  refine T.cutE (⟨[(1, .v (.int .i64 a1)), (2, .ptr 0 0), (5, .own 1 0 o13.length)], [(0, some (.box [.lst (List.map eSeat a0.Seats), .v (.int .i64 a0.Gap), .v (.int .i64 a0.Radius), .lst (List.map eI a0.Kills), .lst (List.map ePole a0.Poles)])), (1, some (.arr false 1 (List.map eI o13)))], 8, []⟩) ?_ ?_
  · have H := E14
    refine T.block ?_
    refine T.loopS (fun n s => ∃ (v16 : (List Int)) (v17 : Int), ref6_killedBy_l0 k a0 a1 n v16 v17 = some o13 ∧ s = ⟨[(1, .v (.int .i64 a1)), (2, .ptr 0 0), (5, .own 1 0 v16.length), (6, .v (.int .i64 v17))], [(0, some (.box [.lst (List.map eSeat a0.Seats), .v (.int .i64 a0.Gap), .v (.int .i64 a0.Radius), .lst (List.map eI a0.Kills), .lst (List.map ePole a0.Poles)])), (1, some (.arr false 1 (List.map eI v16)))], 8, []⟩) k ⟨_, ⟨[], 0, H, rfl⟩, sub_to [some 0, none] (by decide) rfl rfl (⟨⟨_, rfl, .one .v⟩, ⟨⟨_, rfl, .one (.ptr rfl)⟩, ⟨⟨_, rfl, .one .nilO⟩, ⟨⟨_, rfl, .one .v⟩, trivial⟩⟩⟩⟩) (⟨⟨rfl, .inl ⟨_, _, rfl, rfl, .box ⟨.lst, .v, .v, .lst, .lst, trivial⟩⟩⟩, ⟨⟨rfl, .inr ⟨rfl, false, _, rfl, (by decide)⟩⟩, trivial⟩⟩)⟩ ?_
    rintro n s ⟨v16, v17, H, rfl⟩
    rcases n with _ | n
    · cases (show none = some _ from H)
    rw [ref6_killedBy_l0] at H
    refine T.seq ?_
    refine T.seq ?_
    refine T.region ?_
    refine RunT.ot0 (x := .v (.int .i64 v17)) rfl rfl rfl rfl (.moveX rfl) ?_
    refine RunT.ot0 (x := .ptr 0 3) rfl rfl rfl rfl (.fieldPX fl26_3 rfl rfl) ?_
    refine RunT.ot0 (x := .lst (List.map eI a0.Kills)) rfl rfl rfl rfl (.loadP ty23 rfl rfl rfl) ?_
    refine RunT.ot0 (x := .v (.int .i64 (a0.Kills.length : Int))) rfl rfl rfl rfl (.lenLm Try.underlying23 rfl rfl) ?_
    refine RunT.ot0 (x := .v (.bool (decide (v17 < (a0.Kills.length : Int))))) rfl rfl rfl rfl (.bin rfl rfl (fun w => b_lss w) rfl) ?_
    refine RunT.nil ?_
    refine T.cond2 (t := decide (v17 < (a0.Kills.length : Int))) rfl (fun c18 => ?_) (fun c18 => ?_)
    · replace H := ct H c18
      refine T.skip ?_
      refine T.seq ?_
      refine T.block ?_
      refine T.seq ?_
      refine T.region ?_
      refine RunT.ot0 (x := .ptr 0 3) rfl rfl rfl rfl (.fieldPX fl26_3 rfl rfl) ?_
      refine RunT.ot0 (x := .lst (List.map eI a0.Kills)) rfl rfl rfl rfl (.loadP ty23 rfl rfl rfl) ?_
      refine RunT.ot0 (x := .v (.int .i64 v17)) rfl rfl rfl rfl (.moveX rfl) ?_
      obtain ⟨y19, h20, H⟩ := bs H
      refine RunT.ot0 (x := .rptr [.v (.int .i64 y19)]) rfl rfl rfl rfl (.idxLX h20 enc_I sl23 rfl rfl rfl) ?_
      refine RunT.ot0 (x := .v (.int .i64 y19)) rfl rfl rfl rfl (.loadR ty3 rfl rfl) ?_
      refine RunT.ot0 (x := .v (.int .i64 a1)) rfl rfl rfl rfl (.moveX rfl) ?_
      refine RunT.ot0 (x := .v (.bool (decide (y19 = a1)))) rfl rfl rfl rfl (.bin rfl rfl (fun w => b_eql w) rfl) ?_
      refine RunT.nil ?_
      refine T.cond2 (t := decide (y19 = a1)) rfl (fun c21 => ?_) (fun c21 => ?_)
      · replace H := ct H c21
        refine T.sub (sub_pick [1, 2, 5, 6] [0, 1] (st' := ⟨[(1, .v (.int .i64 a1)), (2, .ptr 0 0), (5, .own 1 0 v16.length), (6, .v (.int .i64 v17))], [(0, some (.box [.lst (List.map eSeat a0.Seats), .v (.int .i64 a0.Gap), .v (.int .i64 a0.Radius), .lst (List.map eI a0.Kills), .lst (List.map ePole a0.Poles)])), (1, some (.arr false 1 (List.map eI v16)))], 8, []⟩) rfl rfl rfl rfl rfl) ?_
        refine T.region ?_
        refine RunT.ot0 (x := .own 1 0 v16.length) rfl rfl rfl rfl (.moveX rfl) ?_
        refine RunT.ot1 (x := .own 8 0 (([(-1)]).length)) (p0 := (8, some (.arr false 1 (List.map eI [(-1)])))) (n' := 16) rfl rfl rfl rfl (.bslicem (d := false) (l := [(-1)]) (f := eI) sl23 rfl rfl rfl enc_I rfl) rfl ?_
        obtain ⟨h22, H⟩ := gs H
        refine RunT.ot2 (x := .own 16 0 ((v16 ++ [(-1)]).length)) (p0 := (16, some (.arr false 1 (List.map eI (v16 ++ [(-1)]))))) (p1 := (1, none)) (n' := 24) rfl rfl rfl rfl (.appOn (d := false) (l := v16) (m := [(-1)]) (f := eI) rfl sl23 rfl rfl rfl (.ownn Try.underlying23 rfl rfl (fun h => by cases h)) rfl h22) rfl ?_
        refine RunT.ot0 (x := .own 16 0 ((v16 ++ [(-1)]).length)) rfl rfl rfl rfl (.assignX rfl) ?_
        refine RunT.nil ?_
        refine T.region ?_
        refine RunT.ot0 (x := .v (.int .i64 v17)) rfl rfl rfl rfl (.moveX rfl) ?_
        refine RunT.ot0 (x := .v (.int .i64 (wr (v17 + 1)))) rfl rfl rfl rfl (.bin rfl rfl (fun w => b_addw w) rfl) ?_
        refine RunT.ot0 (x := .v (.int .i64 (wr (v17 + 1)))) rfl rfl rfl rfl (.assignX rfl) ?_
        refine RunT.nil ?_
        exact ⟨n, Nat.lt_succ_self n, _, ⟨v16 ++ [(-1)], wr (v17 + 1), H, rfl⟩, (sub_to [some 0, some 16] (by decide) rfl rfl (⟨⟨_, rfl, .one .v⟩, ⟨⟨_, rfl, .one (.ptr rfl)⟩, ⟨⟨_, rfl, .one (.own rfl)⟩, ⟨⟨_, rfl, .one .v⟩, trivial⟩⟩⟩⟩) (⟨⟨rfl, .inl ⟨_, _, rfl, rfl, .box ⟨.lst, .v, .v, .lst, .lst, trivial⟩⟩⟩, ⟨⟨rfl, .inl ⟨_, _, rfl, rfl, .arr rfl⟩⟩, trivial⟩⟩))⟩
      · replace H := cf H c21
        refine T.skip ?_
        refine T.region ?_
        refine RunT.ot0 (x := .v (.int .i64 v17)) rfl rfl rfl rfl (.moveX rfl) ?_
        refine RunT.ot0 (x := .v (.int .i64 (wr (v17 + 1)))) rfl rfl rfl rfl (.bin rfl rfl (fun w => b_addw w) rfl) ?_
        refine RunT.ot0 (x := .v (.int .i64 (wr (v17 + 1)))) rfl rfl rfl rfl (.assignX rfl) ?_
        refine RunT.nil ?_
        exact ⟨n, Nat.lt_succ_self n, _, ⟨v16, wr (v17 + 1), H, rfl⟩, (sub_to [some 0, some 1] (by decide) rfl rfl (⟨⟨_, rfl, .one .v⟩, ⟨⟨_, rfl, .one (.ptr rfl)⟩, ⟨⟨_, rfl, .one (.own rfl)⟩, ⟨⟨_, rfl, .one .v⟩, trivial⟩⟩⟩⟩) (⟨⟨rfl, .inl ⟨_, _, rfl, rfl, .box ⟨.lst, .v, .v, .lst, .lst, trivial⟩⟩⟩, ⟨⟨rfl, .inl ⟨_, _, rfl, rfl, .arr rfl⟩⟩, trivial⟩⟩))⟩
    · replace H := cf H c18
      refine T.exit ?_
      obtain rfl := si H
      exact (sub_to [some 0, some 1] (by decide) rfl rfl (⟨⟨_, rfl, .one .v⟩, ⟨⟨_, rfl, .one (.ptr rfl)⟩, ⟨⟨_, rfl, .one (.own rfl)⟩, trivial⟩⟩⟩) (⟨⟨rfl, .inl ⟨_, _, rfl, rfl, .box ⟨.lst, .v, .v, .lst, .lst, trivial⟩⟩⟩, ⟨⟨rfl, .inl ⟨_, _, rfl, rfl, .arr rfl⟩⟩, trivial⟩⟩))
  · intro s hS
    have H := HO15
    refine T.sub hS ?_
    refine T.seq ?_
    refine T.seq ?_
    refine T.region ?_
    refine RunT.ot0 (x := .v (.int .i64 0)) rfl rfl rfl rfl (.assignX rfl) ?_
    refine RunT.nil ?_
    obtain ⟨o47, E48, HO49⟩ := bs H
    refine T.cutE (⟨[(5, .own 0 0 o47.length)], [(0, some (.arr false 1 (List.map eI o47)))], 8, []⟩) ?_ ?_
    · have H := E48
      refine T.block ?_
      refine T.loopS (fun n s => ∃ (v50 : (List Int)) (v51 : Int), ref6_killedBy_l1 k a0 a1 n v50 v51 = some o47 ∧ s = ⟨[(1, .v (.int .i64 a1)), (2, .ptr 0 0), (5, .own 1 0 v50.length), (7, .v (.int .i64 v51))], [(0, some (.box [.lst (List.map eSeat a0.Seats), .v (.int .i64 a0.Gap), .v (.int .i64 a0.Radius), .lst (List.map eI a0.Kills), .lst (List.map ePole a0.Poles)])), (1, some (.arr false 1 (List.map eI v50)))], 8, []⟩) k ⟨_, ⟨o13, 0, H, rfl⟩, sub_to [some 0, some 1] (by decide) rfl rfl (⟨⟨_, rfl, .one .v⟩, ⟨⟨_, rfl, .one (.ptr rfl)⟩, ⟨⟨_, rfl, .one (.own rfl)⟩, ⟨⟨_, rfl, .one .v⟩, trivial⟩⟩⟩⟩) (⟨⟨rfl, .inl ⟨_, _, rfl, rfl, .box ⟨.lst, .v, .v, .lst, .lst, trivial⟩⟩⟩, ⟨⟨rfl, .inl ⟨_, _, rfl, rfl, .arr rfl⟩⟩, trivial⟩⟩)⟩ ?_
      rintro n s ⟨v50, v51, H, rfl⟩
      rcases n with _ | n
      · cases (show none = some _ from H)
      rw [ref6_killedBy_l1] at H
      refine T.seq ?_
      refine T.seq ?_
      refine T.region ?_
      refine RunT.ot0 (x := .v (.int .i64 v51)) rfl rfl rfl rfl (.moveX rfl) ?_
      refine RunT.ot0 (x := .ptr 0 4) rfl rfl rfl rfl (.fieldPX fl26_4 rfl rfl) ?_
      refine RunT.ot0 (x := .lst (List.map ePole a0.Poles)) rfl rfl rfl rfl (.loadP ty24 rfl rfl rfl) ?_
      refine RunT.ot0 (x := .v (.int .i64 (a0.Poles.length : Int))) rfl rfl rfl rfl (.lenLm Try.underlying24 rfl rfl) ?_
      refine RunT.ot0 (x := .v (.bool (decide (v51 < (a0.Poles.length : Int))))) rfl rfl rfl rfl (.bin rfl rfl (fun w => b_lss w) rfl) ?_
      refine RunT.nil ?_
      refine T.cond2 (t := decide (v51 < (a0.Poles.length : Int))) rfl (fun c52 => ?_) (fun c52 => ?_)
      · replace H := ct H c52
        refine T.skip ?_
        refine T.seq ?_
        refine T.block ?_
        refine T.seq ?_
        refine T.sub (sub_pick [1, 2, 5, 7] [0, 1] (st' := ⟨[(1, .v (.int .i64 a1)), (2, .ptr 0 0), (5, .own 1 0 v50.length), (7, .v (.int .i64 v51))], [(0, some (.box [.lst (List.map eSeat a0.Seats), .v (.int .i64 a0.Gap), .v (.int .i64 a0.Radius), .lst (List.map eI a0.Kills), .lst (List.map ePole a0.Poles)])), (1, some (.arr false 1 (List.map eI v50)))], 8, []⟩) rfl rfl rfl rfl rfl) ?_
        refine T.region ?_
        refine RunT.ot0 (x := .ptr 0 4) rfl rfl rfl rfl (.fieldPX fl26_4 rfl rfl) ?_
        refine RunT.ot0 (x := .lst (List.map ePole a0.Poles)) rfl rfl rfl rfl (.loadP ty24 rfl rfl rfl) ?_
        refine RunT.ot0 (x := .v (.int .i64 v51)) rfl rfl rfl rfl (.moveX rfl) ?_
        obtain ⟨y53, h54, H⟩ := bs H
        refine RunT.ot0 (x := .rptr [.v (.int .i64 y53.X), .v (.int .i64 y53.Y), .v (.int .i64 y53.R)]) rfl rfl rfl rfl (.idxLX h54 enc_Pole sl24 rfl rfl rfl) ?_
        refine RunT.ot0 (x := .agg [.v (.int .i64 y53.X), .v (.int .i64 y53.Y), .v (.int .i64 y53.R)]) rfl rfl rfl rfl (.loadR ty60 rfl rfl) ?_
        refine RunT.ot1 (x := .ptr 8 0) (p0 := (8, some (.box [.v (.int .i64 0), .v (.int .i64 0), .v (.int .i64 0)]))) (n' := 16) rfl rfl rfl rfl (.allocX in60.zero rfl rfl) rfl ?_
        refine RunT.on1 (x := .junk) (p0 := (8, some (.box [.v (.int .i64 y53.X), .v (.int .i64 y53.Y), .v (.int .i64 y53.R)]))) (n' := 24) rfl rfl rfl (.storePX ty60 rfl rfl rfl rfl rfl rfl rfl) rfl ?_
        refine RunT.nil ?_
        refine T.seq ?_
        refine T.draw (wr := []) mixed rfl rfl ?_ rfl
        refine RunD.ot0 (x := .ptr 0 0) rfl rfl rfl rfl (.fieldPX fl26_0 rfl rfl) rfl ?_
        refine RunD.ot0 (x := .lst (List.map eSeat a0.Seats)) rfl rfl rfl rfl (.loadP ty22 rfl rfl rfl) rfl ?_
        refine RunD.ot0 (x := .v (.int .i64 a1)) rfl rfl rfl rfl (.moveX rfl) rfl ?_
        obtain ⟨y61, h62, H⟩ := bs H
        refine RunD.ot0 (x := .rptr [.v (.int .i64 y61.Row), .v (.int .i64 y61.X), .v (.int .i64 y61.Y), .v (.int .i64 y61.Kind)]) rfl rfl rfl rfl (.idxLX h62 enc_Seat sl22 rfl rfl rfl) rfl ?_
        refine RunD.ot0 (x := .agg [.v (.int .i64 y61.Row), .v (.int .i64 y61.X), .v (.int .i64 y61.Y), .v (.int .i64 y61.Kind)]) rfl rfl rfl rfl (.loadR ty28 rfl rfl) rfl ?_
        refine RunD.ot0 (x := .ptr 8 0) rfl rfl rfl rfl (.fieldPX fl60_0 rfl rfl) rfl ?_
        refine RunD.ot0 (x := .v (.int .i64 y53.X)) rfl rfl rfl rfl (.loadP ty3 rfl rfl rfl) rfl ?_
        refine RunD.ot0 (x := .ptr 8 1) rfl rfl rfl rfl (.fieldPX fl60_1 rfl rfl) rfl ?_
        refine RunD.ot0 (x := .v (.int .i64 y53.Y)) rfl rfl rfl rfl (.loadP ty3 rfl rfl rfl) rfl ?_
        refine RunD.ot0 (x := .agg [.v (.int .i64 0), .v (.int .i64 y53.X), .v (.int .i64 y53.Y), .v (.int .i64 0)]) rfl rfl rfl rfl (.bu bu28 rfl) rfl ?_
        obtain ⟨r63, h64, H⟩ := bs H
        refine RunD.ot0 (x := .v (.int .i64 r63)) rfl rfl rfl rfl (.callp (ref6_Far_pc false k y61 (Seat.mk 0 y53.X y53.Y 0) r63 h64) rfl ⟨(.agg' ⟨.v, .v, .v, .v, trivial⟩), (.agg' ⟨.v, .v, .v, .v, trivial⟩), trivial⟩ rfl rfl rfl) rfl ?_
        refine RunD.ot0 (x := .ptr 8 2) rfl rfl rfl rfl (.fieldPX fl60_2 rfl rfl) rfl ?_
        refine RunD.ot0 (x := .v (.int .i64 y53.R)) rfl rfl rfl rfl (.loadP ty3 rfl rfl rfl) rfl ?_
        obtain ⟨r65, h66, H⟩ := bs H
        refine RunD.ot0 (x := .v (.int .i64 r65)) rfl rfl rfl rfl (.callp (ref6_square_pc false k y53.R 0 r65 h66) rfl ⟨(.one .v), (.one .v), trivial⟩ rfl rfl rfl) rfl ?_
        refine RunD.ot0 (x := .v (.bool (decide (r63 < r65)))) rfl rfl rfl rfl (.bin rfl rfl (fun w => b_lss w) rfl) rfl ?_
        refine RunD.nil (by kernel_rfl) ⟨rfl, rfl, ?_⟩
        refine T.cond2 (t := decide (r63 < r65)) rfl (fun c67 => ?_) (fun c67 => ?_)
        · replace H := ct H c67
          refine T.sub (sub_pick [1, 2, 5, 7] [0, 1] (st' := ⟨[(1, .v (.int .i64 a1)), (2, .ptr 0 0), (5, .own 1 0 v50.length), (7, .v (.int .i64 v51))], [(0, some (.box [.lst (List.map eSeat a0.Seats), .v (.int .i64 a0.Gap), .v (.int .i64 a0.Radius), .lst (List.map eI a0.Kills), .lst (List.map ePole a0.Poles)])), (1, some (.arr false 1 (List.map eI v50)))], 144, []⟩) rfl rfl rfl rfl rfl) ?_
          refine T.region ?_
          refine RunT.ot0 (x := .own 1 0 v50.length) rfl rfl rfl rfl (.moveX rfl) ?_
          refine RunT.ot0 (x := .v (.int .i64 v51)) rfl rfl rfl rfl (.moveX rfl) ?_
          refine RunT.ot1 (x := .own 144 0 (([v51]).length)) (p0 := (144, some (.arr false 1 (List.map eI [v51])))) (n' := 152) rfl rfl rfl rfl (.bslicem (d := false) (l := [v51]) (f := eI) sl23 rfl rfl rfl enc_I rfl) rfl ?_
          obtain ⟨h68, H⟩ := gs H
          refine RunT.ot2 (x := .own 152 0 ((v50 ++ [v51]).length)) (p0 := (152, some (.arr false 1 (List.map eI (v50 ++ [v51]))))) (p1 := (1, none)) (n' := 160) rfl rfl rfl rfl (.appOn (d := false) (l := v50) (m := [v51]) (f := eI) rfl sl23 rfl rfl rfl (.ownn Try.underlying23 rfl rfl (fun h => by cases h)) rfl h68) rfl ?_
          refine RunT.ot0 (x := .own 152 0 ((v50 ++ [v51]).length)) rfl rfl rfl rfl (.assignX rfl) ?_
          refine RunT.nil ?_
          refine T.region ?_
          refine RunT.ot0 (x := .v (.int .i64 v51)) rfl rfl rfl rfl (.moveX rfl) ?_
          refine RunT.ot0 (x := .v (.int .i64 (wr (v51 + 1)))) rfl rfl rfl rfl (.bin rfl rfl (fun w => b_addw w) rfl) ?_
          refine RunT.ot0 (x := .v (.int .i64 (wr (v51 + 1)))) rfl rfl rfl rfl (.assignX rfl) ?_
          refine RunT.nil ?_
          exact ⟨n, Nat.lt_succ_self n, _, ⟨v50 ++ [v51], wr (v51 + 1), H, rfl⟩, (sub_to [some 0, some 152] (by decide) rfl rfl (⟨⟨_, rfl, .one .v⟩, ⟨⟨_, rfl, .one (.ptr rfl)⟩, ⟨⟨_, rfl, .one (.own rfl)⟩, ⟨⟨_, rfl, .one .v⟩, trivial⟩⟩⟩⟩) (⟨⟨rfl, .inl ⟨_, _, rfl, rfl, .box ⟨.lst, .v, .v, .lst, .lst, trivial⟩⟩⟩, ⟨⟨rfl, .inl ⟨_, _, rfl, rfl, .arr rfl⟩⟩, trivial⟩⟩))⟩
        · replace H := cf H c67
          refine T.skip ?_
          refine T.region ?_
          refine RunT.ot0 (x := .v (.int .i64 v51)) rfl rfl rfl rfl (.moveX rfl) ?_
          refine RunT.ot0 (x := .v (.int .i64 (wr (v51 + 1)))) rfl rfl rfl rfl (.bin rfl rfl (fun w => b_addw w) rfl) ?_
          refine RunT.ot0 (x := .v (.int .i64 (wr (v51 + 1)))) rfl rfl rfl rfl (.assignX rfl) ?_
          refine RunT.nil ?_
          exact ⟨n, Nat.lt_succ_self n, _, ⟨v50, wr (v51 + 1), H, rfl⟩, (sub_to [some 0, some 1] (by decide) rfl rfl (⟨⟨_, rfl, .one .v⟩, ⟨⟨_, rfl, .one (.ptr rfl)⟩, ⟨⟨_, rfl, .one (.own rfl)⟩, ⟨⟨_, rfl, .one .v⟩, trivial⟩⟩⟩⟩) (⟨⟨rfl, .inl ⟨_, _, rfl, rfl, .box ⟨.lst, .v, .v, .lst, .lst, trivial⟩⟩⟩, ⟨⟨rfl, .inl ⟨_, _, rfl, rfl, .arr rfl⟩⟩, trivial⟩⟩))⟩
      · replace H := cf H c52
        refine T.exit ?_
        obtain rfl := si H
        exact (sub_to [some 1] (by decide) rfl rfl (⟨⟨_, rfl, .one (.own rfl)⟩, trivial⟩) (⟨⟨rfl, .inl ⟨_, _, rfl, rfl, .arr rfl⟩⟩, trivial⟩))
    · intro s hS
      have H := HO49
      refine T.sub hS ?_
      refine T.seq ?_
      refine T.region ?_
      refine RunT.ot0 (x := .own 0 0 o47.length) rfl rfl rfl rfl (.moveX rfl) ?_
      refine RunT.ot0 (x := .own 0 0 o47.length) rfl rfl rfl rfl (.assignX rfl) ?_
      refine RunT.nil ?_
      obtain rfl := si H
      refine T.sub (sub_to (st' := ⟨[(4, .own 0 0 ((List.map eI o47).length))], [(0, some (.arr false 1 (List.map eI o47)))], 8, []⟩) [some 0] (by decide) rfl rfl (⟨⟨_, rfl, .one (.own' rfl (List.length_map _).symm)⟩, trivial⟩) (⟨⟨rfl, .inl ⟨_, _, rfl, rfl, .arr rfl⟩⟩, trivial⟩)) ?_
      refine T.ret ?_
      exact RetOk.same [.own 0 0 ((List.map eI o47).length)] ⟨rfl, trivial⟩ rfl rfl rfl
set_option maxHeartbeats 4000000 in
theorem ref6_Usable_pc (al : Bool) (k : Nat) (a0 : Venue) (o : (List Bool)) (H : ref6_Usable k a0 = some o) : PC Try.prog al 52 [.agg [.lst (List.map eSeat a0.Seats), .v (.int .i64 a0.Gap), .v (.int .i64 a0.Radius), .lst (List.map eI a0.Kills), .lst (List.map ePole a0.Poles)]] (.frs 1 (List.map eB o)) := by
  unfold ref6_Usable at H
  refine PC.of_T Try.func52 rfl rfl (n := 27) rfl rfl (.inr (flat1_frs (sz := 1) fl_B)) ?_
  intro base B w0
  refine T.st (st' := ⟨[(0, .agg [.lst (List.map eSeat a0.Seats), .v (.int .i64 a0.Gap), .v (.int .i64 a0.Radius), .lst (List.map eI a0.Kills), .lst (List.map ePole a0.Poles)])], [], 0, []⟩) rfl ?_
  refine T.seq ?_
  refine T.region ?_
  refine RunT.ot1 (x := .ptr 0 0) (p0 := (0, some (.box [.lst (List.map eSeat a0.Seats), .v (.int .i64 a0.Gap), .v (.int .i64 a0.Radius), .lst (List.map eI a0.Kills), .lst (List.map ePole a0.Poles)]))) (n' := 8) rfl rfl rfl rfl (.boxX rfl rfl rfl) rfl ?_
  refine RunT.ot0 (x := .v (.slice none 0 0)) rfl rfl rfl rfl (.assignX rfl) ?_
  refine RunT.nil ?_
  refine T.seq ?_
  refine T.seq ?_
  refine T.region ?_
  refine RunT.ot0 (x := .agg [.lst (List.map eSeat a0.Seats), .v (.int .i64 a0.Gap), .v (.int .i64 a0.Radius), .lst (List.map eI a0.Kills), .lst (List.map ePole a0.Poles)]) rfl rfl rfl rfl (.loadP ty26 rfl rfl rfl) ?_
  obtain ⟨r1, h2, H⟩ := bs H
  refine RunT.ot0 (x := .v (.bool r1)) rfl rfl rfl rfl (.callp (ref2_May_pc false k a0 r1 h2) rfl ⟨(.agg' ⟨.lst, .v, .v, .lst, .lst, trivial⟩), trivial⟩ rfl rfl rfl) ?_
  refine RunT.ot0 (x := .v (.bool (!r1))) rfl rfl rfl rfl (.un rfl (fun w => u_not w) rfl) ?_
  refine RunT.nil ?_
  refine T.cond2 (t := !r1) rfl (fun c3 => ?_) (fun c3 => ?_)
  · replace H := ct H c3
    refine T.seq ?_
    refine T.region ?_
    refine RunT.ot0 (x := .v (.slice none 0 0)) rfl rfl rfl rfl (.assignX rfl) ?_
    refine RunT.nil ?_
    obtain rfl := si H
    refine T.sub (sub_to (st' := ⟨[(2, .own 0 0 0)], [(0, some (.arr false 1 (List.map eB [])))], 8, []⟩) [none] (by decide) rfl rfl (⟨⟨_, rfl, .one .nilO⟩, trivial⟩) (⟨⟨rfl, .inr ⟨rfl, false, _, rfl, (by decide)⟩⟩, trivial⟩)) ?_
    refine T.ret ?_
    exact RetOk.same [.own 0 0 0] ⟨rfl, trivial⟩ rfl rfl rfl
  · replace H := cf H c3
    refine T.skip ?_
    refine T.seq ?_
    refine T.region ?_
    refine RunT.ot0 (x := .ptr 0 0) rfl rfl rfl rfl (.fieldPX fl26_0 rfl rfl) ?_
    refine RunT.ot0 (x := .lst (List.map eSeat a0.Seats)) rfl rfl rfl rfl (.loadP ty22 rfl rfl rfl) ?_
    refine RunT.ot0 (x := .v (.int .i64 (a0.Seats.length : Int))) rfl rfl rfl rfl (.lenLm Try.underlying22 rfl rfl) ?_
    obtain ⟨h4, H⟩ := gs H
    refine RunT.ot1 (x := .own 8 0 ((List.replicate (a0.Seats.length : Int).toNat false).length)) (p0 := (8, some (.arr false 1 (List.map eB (List.replicate (a0.Seats.length : Int).toNat false))))) (n' := 16) rfl rfl rfl rfl (.mkslicem (d := false) (z' := false) (f := eB) sl43 rfl rfl in4.zero rfl enc_B h4) rfl ?_
    refine RunT.ot0 (x := .own 8 0 ((List.replicate (a0.Seats.length : Int).toNat false).length)) rfl rfl rfl rfl (.assignX rfl) ?_
    refine RunT.nil ?_
    refine T.seq ?_
    refine T.seq ?_
    refine T.region ?_
    refine RunT.ot0 (x := .v (.int .i64 0)) rfl rfl rfl rfl (.assignX rfl) ?_
    refine RunT.nil ?_
    obtain ⟨o17, E18, HO19⟩ := bs H
    refine T.cutE (⟨[(3, .own 0 0 o17.length)], [(0, some (.arr false 1 (List.map eB o17)))], 8, []⟩) ?_ ?_
    · have H := E18
      refine T.block ?_
      refine T.loopS (fun n s => ∃ (v20 : (List Bool)) (v21 : Int), ref6_Usable_l0 k a0 n v20 v21 = some o17 ∧ s = ⟨[(1, .ptr 0 0), (3, .own 1 0 v20.length), (4, .v (.int .i64 v21))], [(0, some (.box [.lst (List.map eSeat a0.Seats), .v (.int .i64 a0.Gap), .v (.int .i64 a0.Radius), .lst (List.map eI a0.Kills), .lst (List.map ePole a0.Poles)])), (1, some (.arr false 1 (List.map eB v20)))], 8, []⟩) k ⟨_, ⟨List.replicate (a0.Seats.length : Int).toNat false, 0, H, rfl⟩, sub_to [some 0, some 8] (by decide) rfl rfl (⟨⟨_, rfl, .one (.ptr rfl)⟩, ⟨⟨_, rfl, .one (.own rfl)⟩, ⟨⟨_, rfl, .one .v⟩, trivial⟩⟩⟩) (⟨⟨rfl, .inl ⟨_, _, rfl, rfl, .box ⟨.lst, .v, .v, .lst, .lst, trivial⟩⟩⟩, ⟨⟨rfl, .inl ⟨_, _, rfl, rfl, .arr rfl⟩⟩, trivial⟩⟩)⟩ ?_
      rintro n s ⟨v20, v21, H, rfl⟩
      rcases n with _ | n
      · cases (show none = some _ from H)
      rw [ref6_Usable_l0] at H
      refine T.seq ?_
      refine T.seq ?_
      refine T.region ?_
      refine RunT.ot0 (x := .v (.int .i64 v21)) rfl rfl rfl rfl (.moveX rfl) ?_
      refine RunT.ot0 (x := .own 1 0 v20.length) rfl rfl rfl rfl (.moveX rfl) ?_
      refine RunT.ot0 (x := .v (.int .i64 (v20.length : Int))) rfl rfl rfl rfl (.lenON rfl Try.underlying43 rfl rfl) ?_
      refine RunT.ot0 (x := .v (.bool (decide (v21 < (v20.length : Int))))) rfl rfl rfl rfl (.bin rfl rfl (fun w => b_lss w) rfl) ?_
      refine RunT.nil ?_
      refine T.cond2 (t := decide (v21 < (v20.length : Int))) rfl (fun c22 => ?_) (fun c22 => ?_)
      · replace H := ct H c22
        refine T.skip ?_
        refine T.seq ?_
        refine T.block ?_
        refine T.sub (sub_pick [1, 3, 4] [0, 1] (st' := ⟨[(1, .ptr 0 0), (3, .own 1 0 v20.length), (4, .v (.int .i64 v21))], [(0, some (.box [.lst (List.map eSeat a0.Seats), .v (.int .i64 a0.Gap), .v (.int .i64 a0.Radius), .lst (List.map eI a0.Kills), .lst (List.map ePole a0.Poles)])), (1, some (.arr false 1 (List.map eB v20)))], 8, []⟩) rfl rfl rfl rfl rfl) ?_
        refine T.region ?_
        refine RunT.ot0 (x := .own 1 0 v20.length) rfl rfl rfl rfl (.moveX rfl) ?_
        refine RunT.ot0 (x := .v (.int .i64 v21)) rfl rfl rfl rfl (.moveX rfl) ?_
        refine RunT.ot0 (x := .agg [.lst (List.map eSeat a0.Seats), .v (.int .i64 a0.Gap), .v (.int .i64 a0.Radius), .lst (List.map eI a0.Kills), .lst (List.map ePole a0.Poles)]) rfl rfl rfl rfl (.loadP ty26 rfl rfl rfl) ?_
        refine RunT.ot0 (x := .v (.int .i64 v21)) rfl rfl rfl rfl (.moveX rfl) ?_
        obtain ⟨r23, h24, H⟩ := bs H
        refine RunT.ot0 (x := .lst (List.map eI r23)) rfl rfl rfl rfl (.callp (PC.frozen (ref6_killedBy_pc false k a0 v21 r23 h24)) rfl ⟨(.agg' ⟨.lst, .v, .v, .lst, .lst, trivial⟩), (.one .v), trivial⟩ rfl rfl rfl) ?_
        refine RunT.ot0 (x := .v (.int .i64 (r23.length : Int))) rfl rfl rfl rfl (.lenLm Try.underlying23 rfl rfl) ?_
        refine RunT.ot0 (x := .v (.bool (decide ((r23.length : Int) = 0)))) rfl rfl rfl rfl (.bin rfl rfl (fun w => b_eql w) rfl) ?_
        obtain ⟨y25, h26, H⟩ := bs H
        refine RunT.ot0 (x := .eptr 1 v21.toNat 0) rfl rfl rfl rfl (.idxOn rfl sl43 rfl rfl rfl h26) ?_
        refine RunT.on1 (x := .junk) (p0 := (1, some (.arr false 1 (List.map eB (v20.set v21.toNat (decide ((r23.length : Int) = 0))))))) (n' := 16) rfl rfl rfl (.storeEm (z' := decide ((r23.length : Int) = 0)) ty4 rfl rfl rfl rfl rfl (ixs h26).2.1 rfl (fun _ => rfl) rfl) rfl ?_
        refine RunT.nil ?_
        refine T.region ?_
        refine RunT.ot0 (x := .v (.int .i64 v21)) rfl rfl rfl rfl (.moveX rfl) ?_
        refine RunT.ot0 (x := .v (.int .i64 (wr (v21 + 1)))) rfl rfl rfl rfl (.bin rfl rfl (fun w => b_addw w) rfl) ?_
        refine RunT.ot0 (x := .v (.int .i64 (wr (v21 + 1)))) rfl rfl rfl rfl (.assignX rfl) ?_
        refine RunT.nil ?_
        exact ⟨n, Nat.lt_succ_self n, _, ⟨v20.set v21.toNat (decide ((r23.length : Int) = 0)), wr (v21 + 1), H, rfl⟩, (sub_to [some 0, some 1] (by decide) rfl rfl (⟨⟨_, rfl, .one (.ptr rfl)⟩, ⟨⟨_, rfl, .one (.own' rfl (List.length_set ..).symm)⟩, ⟨⟨_, rfl, .one .v⟩, trivial⟩⟩⟩) (⟨⟨rfl, .inl ⟨_, _, rfl, rfl, .box ⟨.lst, .v, .v, .lst, .lst, trivial⟩⟩⟩, ⟨⟨rfl, .inl ⟨_, _, rfl, rfl, .arr rfl⟩⟩, trivial⟩⟩))⟩
      · replace H := cf H c22
        refine T.exit ?_
        obtain rfl := si H
        exact (sub_to [some 1] (by decide) rfl rfl (⟨⟨_, rfl, .one (.own rfl)⟩, trivial⟩) (⟨⟨rfl, .inl ⟨_, _, rfl, rfl, .arr rfl⟩⟩, trivial⟩))
    · intro s hS
      have H := HO19
      refine T.sub hS ?_
      refine T.seq ?_
      refine T.region ?_
      refine RunT.ot0 (x := .own 0 0 o17.length) rfl rfl rfl rfl (.moveX rfl) ?_
      refine RunT.ot0 (x := .own 0 0 o17.length) rfl rfl rfl rfl (.assignX rfl) ?_
      refine RunT.nil ?_
      obtain rfl := si H
      refine T.sub (sub_to (st' := ⟨[(2, .own 0 0 ((List.map eB o17).length))], [(0, some (.arr false 1 (List.map eB o17)))], 8, []⟩) [some 0] (by decide) rfl rfl (⟨⟨_, rfl, .one (.own' rfl (List.length_map _).symm)⟩, trivial⟩) (⟨⟨rfl, .inl ⟨_, _, rfl, rfl, .arr rfl⟩⟩, trivial⟩)) ?_
      refine T.ret ?_
      exact RetOk.same [.own 0 0 ((List.map eB o17).length)] ⟨rfl, trivial⟩ rfl rfl rfl
set_option maxHeartbeats 4000000 in
theorem ref6_NewHall_pc (k : Nat) (a0 : Venue) (o : (Option Ref6Hall)) (H : ref6_NewHall k a0 = some o) : PC Try.prog true 109 [.agg [.lst (List.map eSeat a0.Seats), .v (.int .i64 a0.Gap), .v (.int .i64 a0.Radius), .lst (List.map eI a0.Kills), .lst (List.map ePole a0.Poles)]] (eOPRef6Hall o) := by
  unfold ref6_NewHall at H
  refine PC.of_T Try.func109 rfl rfl (n := 11) rfl (by cases o <;> rfl) (.inl rfl) ?_
  intro base B w0
  refine T.st (st' := ⟨[(0, .agg [.lst (List.map eSeat a0.Seats), .v (.int .i64 a0.Gap), .v (.int .i64 a0.Radius), .lst (List.map eI a0.Kills), .lst (List.map ePole a0.Poles)])], [], 0, []⟩) rfl ?_
  refine T.seq ?_
  refine T.region ?_
  refine RunT.ot1 (x := .ptr 0 0) (p0 := (0, some (.box [.lst (List.map eSeat a0.Seats), .v (.int .i64 a0.Gap), .v (.int .i64 a0.Radius), .lst (List.map eI a0.Kills), .lst (List.map ePole a0.Poles)]))) (n' := 8) rfl rfl rfl rfl (.boxX rfl rfl rfl) rfl ?_
  refine RunT.ot0 (x := .v (.pointer none)) rfl rfl rfl rfl (.assignX rfl) ?_
  refine RunT.nil ?_
  refine T.seq ?_
  refine T.seq ?_
  refine T.region ?_
  refine RunT.ot0 (x := .agg [.lst (List.map eSeat a0.Seats), .v (.int .i64 a0.Gap), .v (.int .i64 a0.Radius), .lst (List.map eI a0.Kills), .lst (List.map ePole a0.Poles)]) rfl rfl rfl rfl (.loadP ty26 rfl rfl rfl) ?_
  obtain ⟨r1, h2, H⟩ := bs H
  refine RunT.ot0 (x := .v (.bool r1)) rfl rfl rfl rfl (.callp (ref2_May_pc false k a0 r1 h2) rfl ⟨(.agg' ⟨.lst, .v, .v, .lst, .lst, trivial⟩), trivial⟩ rfl rfl rfl) ?_
  refine RunT.ot0 (x := .v (.bool (!r1))) rfl rfl rfl rfl (.un rfl (fun w => u_not w) rfl) ?_
  refine RunT.nil ?_
  refine T.cond2 (t := !r1) rfl (fun c3 => ?_) (fun c3 => ?_)
  · replace H := ct H c3
    refine T.seq ?_
    refine T.region ?_
    refine RunT.ot0 (x := .v (.pointer none)) rfl rfl rfl rfl (.assignX rfl) ?_
    refine RunT.nil ?_
    obtain rfl := si H
    refine T.sub (sub_to (st' := ⟨[(2, .v (.pointer none))], [], 8, []⟩) [] (by decide) rfl rfl (⟨⟨_, rfl, .one .v⟩, trivial⟩) (trivial)) ?_
    refine T.ret ?_
    exact RetOk.same [.v (.pointer none)] ⟨rfl, trivial⟩ rfl rfl rfl
  · replace H := cf H c3
    refine T.skip ?_
    refine T.seq ?_
    refine T.draw (wr := []) mixed rfl rfl ?_ rfl
    refine RunD.ot0 (x := .agg [.lst (List.map eSeat a0.Seats), .v (.int .i64 a0.Gap), .v (.int .i64 a0.Radius), .lst (List.map eI a0.Kills), .lst (List.map ePole a0.Poles)]) rfl rfl rfl rfl (.loadP ty26 rfl rfl rfl) rfl ?_
    refine RunD.ot0 (x := .agg [.lst (List.map eSeat a0.Seats), .v (.int .i64 a0.Gap), .v (.int .i64 a0.Radius), .lst (List.map eI a0.Kills), .lst (List.map ePole a0.Poles)]) rfl rfl rfl rfl (.loadP ty26 rfl rfl rfl) rfl ?_
    obtain ⟨r6, h7, H⟩ := bs H
    refine RunD.ot0 (x := .lst (List.map eB r6)) rfl rfl rfl rfl (.callp (PC.frozen (ref6_Usable_pc false k a0 r6 h7)) rfl ⟨(.agg' ⟨.lst, .v, .v, .lst, .lst, trivial⟩), trivial⟩ rfl rfl rfl) rfl ?_
    refine RunD.ot0 (x := .agg [.lst (List.map eSeat a0.Seats), .v (.int .i64 a0.Gap), .v (.int .i64 a0.Radius), .lst (List.map eI a0.Kills), .lst (List.map ePole a0.Poles), .lst (List.map eB r6)]) rfl rfl rfl rfl (.bu bu148 rfl) rfl ?_
    refine RunD.ot1 (x := .ptr 40 0) (p0 := (40, some (.box [.lst (List.map eSeat a0.Seats), .v (.int .i64 a0.Gap), .v (.int .i64 a0.Radius), .lst (List.map eI a0.Kills), .lst (List.map ePole a0.Poles), .lst (List.map eB r6)]))) rfl rfl rfl rfl (.boxX rfl rfl rfl) rfl ?_
    refine RunD.ot0 (x := .ptr 40 0) rfl rfl rfl rfl (.assignX rfl) rfl ?_
    refine RunD.nil (by kernel_rfl) ⟨rfl, rfl, ?_⟩
    obtain rfl := si H
    refine T.sub (sub_to (st' := ⟨[(2, .rptr [.lst (List.map eSeat a0.Seats), .v (.int .i64 a0.Gap), .v (.int .i64 a0.Radius), .lst (List.map eI a0.Kills), .lst (List.map ePole a0.Poles), .lst (List.map eB r6)])], [], 8, []⟩) [] (by decide) rfl rfl (⟨⟨_, rfl, .one (.frzP' rfl rfl ⟨.lst, .v, .v, .lst, .lst, .lst, trivial⟩ rfl)⟩, trivial⟩) (trivial)) ?_
    refine T.ret ?_
    exact RetOk.same [.rptr [.lst (List.map eSeat a0.Seats), .v (.int .i64 a0.Gap), .v (.int .i64 a0.Radius), .lst (List.map eI a0.Kills), .lst (List.map ePole a0.Poles), .lst (List.map eB r6)]] ⟨rfl, trivial⟩ rfl rfl rfl
set_option maxHeartbeats 4000000 in
theorem ref6_seat_pc (al : Bool) (k : Nat) (a0 : Venue) (a1 : Int) (o : Bool) (H : ref6_seat k a0 a1 = some o) : PC Try.prog al 106 [.agg [.lst (List.map eSeat a0.Seats), .v (.int .i64 a0.Gap), .v (.int .i64 a0.Radius), .lst (List.map eI a0.Kills), .lst (List.map ePole a0.Poles)], .v (.int .i64 a1)] (.v (.bool o)) := by
  unfold ref6_seat at H
  refine PC.of_T Try.func106 rfl rfl (n := 14) rfl rfl (.inr rfl) ?_
  intro base B w0
  refine T.st (st' := ⟨[(0, .agg [.lst (List.map eSeat a0.Seats), .v (.int .i64 a0.Gap), .v (.int .i64 a0.Radius), .lst (List.map eI a0.Kills), .lst (List.map ePole a0.Poles)]), (1, .v (.int .i64 a1))], [], 0, []⟩) rfl ?_
  refine T.seq ?_
  refine T.region ?_
  refine RunT.ot1 (x := .ptr 0 0) (p0 := (0, some (.box [.lst (List.map eSeat a0.Seats), .v (.int .i64 a0.Gap), .v (.int .i64 a0.Radius), .lst (List.map eI a0.Kills), .lst (List.map ePole a0.Poles)]))) (n' := 8) rfl rfl rfl rfl (.boxX rfl rfl rfl) rfl ?_
  refine RunT.ot0 (x := .v (.bool false)) rfl rfl rfl rfl (.assignX rfl) ?_
  refine RunT.nil ?_
  refine T.seq ?_
  refine T.region ?_
  refine RunT.ot0 (x := .v (.int .i64 a1)) rfl rfl rfl rfl (.moveX rfl) ?_
  refine RunT.ot0 (x := .v (.bool (decide (0 ≤ a1)))) rfl rfl rfl rfl (.bin rfl rfl (fun w => b_geq w) rfl) ?_
  refine RunT.ot0 (x := .v (.bool (decide (0 ≤ a1)))) rfl rfl rfl rfl (.moveX rfl) ?_
  refine RunT.cases (t := 7) (c := decide (0 ≤ a1)) rfl (fun g1 => ?_) (fun g1 => ?_)
  · replace H := ct H g1
    refine RunT.gt0 (x := .v (.int .i64 a1)) rfl rfl rfl (bo g1) rfl rfl (.moveX rfl) ?_
    refine RunT.gt0 (x := .ptr 0 0) rfl rfl rfl (bo g1) rfl rfl (.fieldPX fl26_0 rfl rfl) ?_
    refine RunT.gt0 (x := .lst (List.map eSeat a0.Seats)) rfl rfl rfl (bo g1) rfl rfl (.loadP ty22 rfl rfl rfl) ?_
    refine RunT.gt0 (x := .v (.int .i64 (a0.Seats.length : Int))) rfl rfl rfl (bo g1) rfl rfl (.lenLm Try.underlying22 rfl rfl) ?_
    refine RunT.gt0 (x := .v (.bool (decide (a1 < (a0.Seats.length : Int))))) rfl rfl rfl (bo g1) rfl rfl (.bin rfl rfl (fun w => b_lss w) rfl) ?_
    refine RunT.ot0 (x := .v (.bool (decide (a1 < (a0.Seats.length : Int))))) rfl rfl rfl rfl (.pickT (bo g1) rfl) ?_
    refine RunT.ot0 (x := .v (.bool (decide (a1 < (a0.Seats.length : Int))))) rfl rfl rfl rfl (.assignX rfl) ?_
    refine RunT.nil ?_
    obtain rfl := si H
    refine T.sub (sub_to (st' := ⟨[(4, .v (.bool (decide (a1 < (a0.Seats.length : Int)))))], [], 8, []⟩) [] (by decide) rfl rfl (⟨⟨_, rfl, .one .v⟩, trivial⟩) (trivial)) ?_
    refine T.ret ?_
    exact RetOk.same [.v (.bool (decide (a1 < (a0.Seats.length : Int))))] ⟨rfl, trivial⟩ rfl rfl rfl
  · replace H := cf H g1
    refine RunT.xn rfl rfl rfl (bo g1) rfl rfl ?_
    refine RunT.xn rfl rfl rfl (bo g1) rfl rfl ?_
    refine RunT.xn rfl rfl rfl (bo g1) rfl rfl ?_
    refine RunT.xn rfl rfl rfl (bo g1) rfl rfl ?_
    refine RunT.xn rfl rfl rfl (bo g1) rfl rfl ?_
    refine RunT.ot0 (x := .v (.bool false)) rfl rfl rfl rfl (.pickF (bo g1) rfl) ?_
    refine RunT.ot0 (x := .v (.bool false)) rfl rfl rfl rfl (.assignX rfl) ?_
    refine RunT.nil ?_
    obtain rfl := si H
    refine T.sub (sub_to (st' := ⟨[(4, .v (.bool false))], [], 8, []⟩) [] (by decide) rfl rfl (⟨⟨_, rfl, .one .v⟩, trivial⟩) (trivial)) ?_
    refine T.ret ?_
    exact RetOk.same [.v (.bool false)] ⟨rfl, trivial⟩ rfl rfl rfl
set_option maxHeartbeats 4000000 in
theorem ref6_next_pc (al : Bool) (k : Nat) (a0 : Venue) (a1 : Int) (o : Bool) (H : ref6_next k a0 a1 = some o) : PC Try.prog al 100 [.agg [.lst (List.map eSeat a0.Seats), .v (.int .i64 a0.Gap), .v (.int .i64 a0.Radius), .lst (List.map eI a0.Kills), .lst (List.map ePole a0.Poles)], .v (.int .i64 a1)] (.v (.bool o)) := by
  unfold ref6_next at H
  refine PC.of_T Try.func100 rfl rfl (n := 49) rfl rfl (.inr rfl) ?_
  intro base B w0
  refine T.st (st' := ⟨[(0, .agg [.lst (List.map eSeat a0.Seats), .v (.int .i64 a0.Gap), .v (.int .i64 a0.Radius), .lst (List.map eI a0.Kills), .lst (List.map ePole a0.Poles)]), (1, .v (.int .i64 a1))], [], 0, []⟩) rfl ?_
  refine T.seq ?_
  refine T.region ?_
  refine RunT.ot1 (x := .ptr 0 0) (p0 := (0, some (.box [.lst (List.map eSeat a0.Seats), .v (.int .i64 a0.Gap), .v (.int .i64 a0.Radius), .lst (List.map eI a0.Kills), .lst (List.map ePole a0.Poles)]))) (n' := 8) rfl rfl rfl rfl (.boxX rfl rfl rfl) rfl ?_
  refine RunT.ot0 (x := .v (.bool false)) rfl rfl rfl rfl (.assignX rfl) ?_
  refine RunT.nil ?_
  refine T.seq ?_
  refine T.draw (wr := []) mixed rfl rfl ?_ rfl
  refine RunD.ot0 (x := .agg [.lst (List.map eSeat a0.Seats), .v (.int .i64 a0.Gap), .v (.int .i64 a0.Radius), .lst (List.map eI a0.Kills), .lst (List.map ePole a0.Poles)]) rfl rfl rfl rfl (.loadP ty26 rfl rfl rfl) rfl ?_
  refine RunD.ot0 (x := .v (.int .i64 a1)) rfl rfl rfl rfl (.moveX rfl) rfl ?_
  obtain ⟨r16, h17, H⟩ := bs H
  refine RunD.ot0 (x := .v (.bool r16)) rfl rfl rfl rfl (.callp (ref6_seat_pc false k a0 a1 r16 h17) rfl ⟨(.agg' ⟨.lst, .v, .v, .lst, .lst, trivial⟩), (.one .v), trivial⟩ rfl rfl rfl) rfl ?_
  refine RunD.ot0 (x := .v (.bool r16)) rfl rfl rfl rfl (.moveX rfl) rfl ?_
  refine RunD.cases (t := 8) (c := r16) rfl (fun g18 => ?_) (fun g18 => ?_)
  · replace H := ct H g18
    refine RunD.gt0 (x := .agg [.lst (List.map eSeat a0.Seats), .v (.int .i64 a0.Gap), .v (.int .i64 a0.Radius), .lst (List.map eI a0.Kills), .lst (List.map ePole a0.Poles)]) rfl rfl rfl (bo g18) rfl rfl (.loadP ty26 rfl rfl rfl) rfl ?_
    refine RunD.gt0 (x := .v (.int .i64 a1)) rfl rfl rfl (bo g18) rfl rfl (.moveX rfl) rfl ?_
    refine RunD.gt0 (x := .v (.int .i64 (wr (a1 + 1)))) rfl rfl rfl (bo g18) rfl rfl (.bin rfl rfl (fun w => b_addw w) rfl) rfl ?_
    obtain ⟨r19, h20, H⟩ := bs H
    refine RunD.gt0 (x := .v (.bool r19)) rfl rfl rfl (bo g18) rfl rfl (.callp (ref6_seat_pc false k a0 (wr (a1 + 1)) r19 h20) rfl ⟨(.agg' ⟨.lst, .v, .v, .lst, .lst, trivial⟩), (.one .v), trivial⟩ rfl rfl rfl) rfl ?_
    refine RunD.ot0 (x := .v (.bool r19)) rfl rfl rfl rfl (.pickT (bo g18) rfl) rfl ?_
    refine RunD.ot0 (x := .v (.bool r19)) rfl rfl rfl rfl (.moveX rfl) rfl ?_
    refine RunD.cases (t := 14) (c := r19) rfl (fun g21 => ?_) (fun g21 => ?_)
    · replace H := ct H g21
      refine RunD.gt0 (x := .ptr 0 0) rfl rfl rfl (bo g21) rfl rfl (.fieldPX fl26_0 rfl rfl) rfl ?_
      refine RunD.gt0 (x := .lst (List.map eSeat a0.Seats)) rfl rfl rfl (bo g21) rfl rfl (.loadP ty22 rfl rfl rfl) rfl ?_
      refine RunD.gt0 (x := .v (.int .i64 a1)) rfl rfl rfl (bo g21) rfl rfl (.moveX rfl) rfl ?_
      obtain ⟨y22, h23, H⟩ := bs H
      refine RunD.gt0 (x := .rptr [.v (.int .i64 y22.Row), .v (.int .i64 y22.X), .v (.int .i64 y22.Y), .v (.int .i64 y22.Kind)]) rfl rfl rfl (bo g21) rfl rfl (.idxLX h23 enc_Seat sl22 rfl rfl rfl) rfl ?_
      refine RunD.gt0 (x := .rptr [.v (.int .i64 y22.Row), .v (.int .i64 y22.X), .v (.int .i64 y22.Y), .v (.int .i64 y22.Kind)]) rfl rfl rfl (bo g21) rfl rfl (.fieldRX fl28_0 rfl rfl) rfl ?_
      refine RunD.gt0 (x := .v (.int .i64 y22.Row)) rfl rfl rfl (bo g21) rfl rfl (.loadR ty3 rfl rfl) rfl ?_
      refine RunD.gt0 (x := .ptr 0 0) rfl rfl rfl (bo g21) rfl rfl (.fieldPX fl26_0 rfl rfl) rfl ?_
      refine RunD.gt0 (x := .lst (List.map eSeat a0.Seats)) rfl rfl rfl (bo g21) rfl rfl (.loadP ty22 rfl rfl rfl) rfl ?_
      refine RunD.gt0 (x := .v (.int .i64 a1)) rfl rfl rfl (bo g21) rfl rfl (.moveX rfl) rfl ?_
      refine RunD.gt0 (x := .v (.int .i64 (wr (a1 + 1)))) rfl rfl rfl (bo g21) rfl rfl (.bin rfl rfl (fun w => b_addw w) rfl) rfl ?_
      obtain ⟨y24, h25, H⟩ := bs H
      refine RunD.gt0 (x := .rptr [.v (.int .i64 y24.Row), .v (.int .i64 y24.X), .v (.int .i64 y24.Y), .v (.int .i64 y24.Kind)]) rfl rfl rfl (bo g21) rfl rfl (.idxLX h25 enc_Seat sl22 rfl rfl rfl) rfl ?_
      refine RunD.gt0 (x := .rptr [.v (.int .i64 y24.Row), .v (.int .i64 y24.X), .v (.int .i64 y24.Y), .v (.int .i64 y24.Kind)]) rfl rfl rfl (bo g21) rfl rfl (.fieldRX fl28_0 rfl rfl) rfl ?_
      refine RunD.gt0 (x := .v (.int .i64 y24.Row)) rfl rfl rfl (bo g21) rfl rfl (.loadR ty3 rfl rfl) rfl ?_
      refine RunD.gt0 (x := .v (.bool (decide (y22.Row = y24.Row)))) rfl rfl rfl (bo g21) rfl rfl (.bin rfl rfl (fun w => b_eql w) rfl) rfl ?_
      refine RunD.ot0 (x := .v (.bool (decide (y22.Row = y24.Row)))) rfl rfl rfl rfl (.pickT (bo g21) rfl) rfl ?_
      refine RunD.ot0 (x := .v (.bool (decide (y22.Row = y24.Row)))) rfl rfl rfl rfl (.moveX rfl) rfl ?_
      refine RunD.cases (t := 30) (c := decide (y22.Row = y24.Row)) rfl (fun g26 => ?_) (fun g26 => ?_)
      · replace H := ct H g26
        refine RunD.gt0 (x := .ptr 0 0) rfl rfl rfl (bo g26) rfl rfl (.fieldPX fl26_0 rfl rfl) rfl ?_
        refine RunD.gt0 (x := .lst (List.map eSeat a0.Seats)) rfl rfl rfl (bo g26) rfl rfl (.loadP ty22 rfl rfl rfl) rfl ?_
        refine RunD.gt0 (x := .v (.int .i64 a1)) rfl rfl rfl (bo g26) rfl rfl (.moveX rfl) rfl ?_
        refine RunD.gt0 (x := .v (.int .i64 (wr (a1 + 1)))) rfl rfl rfl (bo g26) rfl rfl (.bin rfl rfl (fun w => b_addw w) rfl) rfl ?_
        obtain ⟨y27, h28, H⟩ := bs H
        refine RunD.gt0 (x := .rptr [.v (.int .i64 y27.Row), .v (.int .i64 y27.X), .v (.int .i64 y27.Y), .v (.int .i64 y27.Kind)]) rfl rfl rfl (bo g26) rfl rfl (.idxLX h28 enc_Seat sl22 rfl rfl rfl) rfl ?_
        refine RunD.gt0 (x := .rptr [.v (.int .i64 y27.X), .v (.int .i64 y27.Y), .v (.int .i64 y27.Kind)]) rfl rfl rfl (bo g26) rfl rfl (.fieldRX fl28_1 rfl rfl) rfl ?_
        refine RunD.gt0 (x := .v (.int .i64 y27.X)) rfl rfl rfl (bo g26) rfl rfl (.loadR ty3 rfl rfl) rfl ?_
        refine RunD.gt0 (x := .ptr 0 0) rfl rfl rfl (bo g26) rfl rfl (.fieldPX fl26_0 rfl rfl) rfl ?_
        refine RunD.gt0 (x := .lst (List.map eSeat a0.Seats)) rfl rfl rfl (bo g26) rfl rfl (.loadP ty22 rfl rfl rfl) rfl ?_
        refine RunD.gt0 (x := .v (.int .i64 a1)) rfl rfl rfl (bo g26) rfl rfl (.moveX rfl) rfl ?_
        obtain ⟨y29, h30, H⟩ := bs H
        refine RunD.gt0 (x := .rptr [.v (.int .i64 y29.Row), .v (.int .i64 y29.X), .v (.int .i64 y29.Y), .v (.int .i64 y29.Kind)]) rfl rfl rfl (bo g26) rfl rfl (.idxLX h30 enc_Seat sl22 rfl rfl rfl) rfl ?_
        refine RunD.gt0 (x := .rptr [.v (.int .i64 y29.X), .v (.int .i64 y29.Y), .v (.int .i64 y29.Kind)]) rfl rfl rfl (bo g26) rfl rfl (.fieldRX fl28_1 rfl rfl) rfl ?_
        refine RunD.gt0 (x := .v (.int .i64 y29.X)) rfl rfl rfl (bo g26) rfl rfl (.loadR ty3 rfl rfl) rfl ?_
        refine RunD.gt0 (x := .v (.int .i64 (wr (y27.X - y29.X)))) rfl rfl rfl (bo g26) rfl rfl (.bin rfl rfl (fun w => b_subw w) rfl) rfl ?_
        refine RunD.gt0 (x := .ptr 0 1) rfl rfl rfl (bo g26) rfl rfl (.fieldPX fl26_1 rfl rfl) rfl ?_
        refine RunD.gt0 (x := .v (.int .i64 a0.Gap)) rfl rfl rfl (bo g26) rfl rfl (.loadP ty3 rfl rfl rfl) rfl ?_
        refine RunD.gt0 (x := .v (.bool (decide ((wr (y27.X - y29.X)) ≤ a0.Gap)))) rfl rfl rfl (bo g26) rfl rfl (.bin rfl rfl (fun w => b_leq w) rfl) rfl ?_
        refine RunD.ot0 (x := .v (.bool (decide ((wr (y27.X - y29.X)) ≤ a0.Gap)))) rfl rfl rfl rfl (.pickT (bo g26) rfl) rfl ?_
        refine RunD.ot0 (x := .v (.bool (decide ((wr (y27.X - y29.X)) ≤ a0.Gap)))) rfl rfl rfl rfl (.assignX rfl) rfl ?_
        refine RunD.nil (by kernel_rfl) ⟨rfl, rfl, ?_⟩
        obtain rfl := si H
        refine T.sub (sub_to (st' := ⟨[(4, .v (.bool (decide ((wr (y27.X - y29.X)) ≤ a0.Gap))))], [], 8, []⟩) [] (by decide) rfl rfl (⟨⟨_, rfl, .one .v⟩, trivial⟩) (trivial)) ?_
        refine T.ret ?_
        exact RetOk.same [.v (.bool (decide ((wr (y27.X - y29.X)) ≤ a0.Gap)))] ⟨rfl, trivial⟩ rfl rfl rfl
      · replace H := cf H g26
        refine RunD.xn rfl rfl rfl (bo g26) rfl rfl ?_
        refine RunD.xn rfl rfl rfl (bo g26) rfl rfl ?_
        refine RunD.xn rfl rfl rfl (bo g26) rfl rfl ?_
        refine RunD.xn rfl rfl rfl (bo g26) rfl rfl ?_
        refine RunD.xn rfl rfl rfl (bo g26) rfl rfl ?_
        refine RunD.xn rfl rfl rfl (bo g26) rfl rfl ?_
        refine RunD.xn rfl rfl rfl (bo g26) rfl rfl ?_
        refine RunD.xn rfl rfl rfl (bo g26) rfl rfl ?_
        refine RunD.xn rfl rfl rfl (bo g26) rfl rfl ?_
        refine RunD.xn rfl rfl rfl (bo g26) rfl rfl ?_
        refine RunD.xn rfl rfl rfl (bo g26) rfl rfl ?_
        refine RunD.xn rfl rfl rfl (bo g26) rfl rfl ?_
        refine RunD.xn rfl rfl rfl (bo g26) rfl rfl ?_
        refine RunD.xn rfl rfl rfl (bo g26) rfl rfl ?_
        refine RunD.xn rfl rfl rfl (bo g26) rfl rfl ?_
        refine RunD.xn rfl rfl rfl (bo g26) rfl rfl ?_
        refine RunD.xn rfl rfl rfl (bo g26) rfl rfl ?_
        refine RunD.ot0 (x := .v (.bool false)) rfl rfl rfl rfl (.pickF (bo g26) rfl) rfl ?_
        refine RunD.ot0 (x := .v (.bool false)) rfl rfl rfl rfl (.assignX rfl) rfl ?_
        refine RunD.nil (by kernel_rfl) ⟨rfl, rfl, ?_⟩
        obtain rfl := si H
        refine T.sub (sub_to (st' := ⟨[(4, .v (.bool false))], [], 8, []⟩) [] (by decide) rfl rfl (⟨⟨_, rfl, .one .v⟩, trivial⟩) (trivial)) ?_
        refine T.ret ?_
        exact RetOk.same [.v (.bool false)] ⟨rfl, trivial⟩ rfl rfl rfl
    · replace H := cf H g21
      refine RunD.xn rfl rfl rfl (bo g21) rfl rfl ?_
      refine RunD.xn rfl rfl rfl (bo g21) rfl rfl ?_
      refine RunD.xn rfl rfl rfl (bo g21) rfl rfl ?_
      refine RunD.xn rfl rfl rfl (bo g21) rfl rfl ?_
      refine RunD.xn rfl rfl rfl (bo g21) rfl rfl ?_
      refine RunD.xn rfl rfl rfl (bo g21) rfl rfl ?_
      refine RunD.xn rfl rfl rfl (bo g21) rfl rfl ?_
      refine RunD.xn rfl rfl rfl (bo g21) rfl rfl ?_
      refine RunD.xn rfl rfl rfl (bo g21) rfl rfl ?_
      refine RunD.xn rfl rfl rfl (bo g21) rfl rfl ?_
      refine RunD.xn rfl rfl rfl (bo g21) rfl rfl ?_
      refine RunD.xn rfl rfl rfl (bo g21) rfl rfl ?_
      refine RunD.xn rfl rfl rfl (bo g21) rfl rfl ?_
      refine RunD.xn rfl rfl rfl (bo g21) rfl rfl ?_
      refine RunD.ot0 (x := .v (.bool false)) rfl rfl rfl rfl (.pickF (bo g21) rfl) rfl ?_
      refine RunD.ot0 (x := .v (.bool false)) rfl rfl rfl rfl (.moveX rfl) rfl ?_
      refine RunD.xn rfl rfl rfl rfl rfl rfl ?_
      refine RunD.xn rfl rfl rfl rfl rfl rfl ?_
      refine RunD.xn rfl rfl rfl rfl rfl rfl ?_
      refine RunD.xn rfl rfl rfl rfl rfl rfl ?_
      refine RunD.xn rfl rfl rfl rfl rfl rfl ?_
      refine RunD.xn rfl rfl rfl rfl rfl rfl ?_
      refine RunD.xn rfl rfl rfl rfl rfl rfl ?_
      refine RunD.xn rfl rfl rfl rfl rfl rfl ?_
      refine RunD.xn rfl rfl rfl rfl rfl rfl ?_
      refine RunD.xn rfl rfl rfl rfl rfl rfl ?_
      refine RunD.xn rfl rfl rfl rfl rfl rfl ?_
      refine RunD.xn rfl rfl rfl rfl rfl rfl ?_
      refine RunD.xn rfl rfl rfl rfl rfl rfl ?_
      refine RunD.xn rfl rfl rfl rfl rfl rfl ?_
      refine RunD.xn rfl rfl rfl rfl rfl rfl ?_
      refine RunD.xn rfl rfl rfl rfl rfl rfl ?_
      refine RunD.xn rfl rfl rfl rfl rfl rfl ?_
      refine RunD.ot0 (x := .v (.bool false)) rfl rfl rfl rfl (.pickF rfl rfl) rfl ?_
      refine RunD.ot0 (x := .v (.bool false)) rfl rfl rfl rfl (.assignX rfl) rfl ?_
      refine RunD.nil (by kernel_rfl) ⟨rfl, rfl, ?_⟩
      obtain rfl := si H
      refine T.sub (sub_to (st' := ⟨[(4, .v (.bool false))], [], 8, []⟩) [] (by decide) rfl rfl (⟨⟨_, rfl, .one .v⟩, trivial⟩) (trivial)) ?_
      refine T.ret ?_
      exact RetOk.same [.v (.bool false)] ⟨rfl, trivial⟩ rfl rfl rfl
  · replace H := cf H g18
    refine RunD.xn rfl rfl rfl (bo g18) rfl rfl ?_
    refine RunD.xn rfl rfl rfl (bo g18) rfl rfl ?_
    refine RunD.xn rfl rfl rfl (bo g18) rfl rfl ?_
    refine RunD.xn rfl rfl rfl (bo g18) rfl rfl ?_
    refine RunD.ot0 (x := .v (.bool false)) rfl rfl rfl rfl (.pickF (bo g18) rfl) rfl ?_
    refine RunD.ot0 (x := .v (.bool false)) rfl rfl rfl rfl (.moveX rfl) rfl ?_
    refine RunD.xn rfl rfl rfl rfl rfl rfl ?_
    refine RunD.xn rfl rfl rfl rfl rfl rfl ?_
    refine RunD.xn rfl rfl rfl rfl rfl rfl ?_
    refine RunD.xn rfl rfl rfl rfl rfl rfl ?_
    refine RunD.xn rfl rfl rfl rfl rfl rfl ?_
    refine RunD.xn rfl rfl rfl rfl rfl rfl ?_
    refine RunD.xn rfl rfl rfl rfl rfl rfl ?_
    refine RunD.xn rfl rfl rfl rfl rfl rfl ?_
    refine RunD.xn rfl rfl rfl rfl rfl rfl ?_
    refine RunD.xn rfl rfl rfl rfl rfl rfl ?_
    refine RunD.xn rfl rfl rfl rfl rfl rfl ?_
    refine RunD.xn rfl rfl rfl rfl rfl rfl ?_
    refine RunD.xn rfl rfl rfl rfl rfl rfl ?_
    refine RunD.xn rfl rfl rfl rfl rfl rfl ?_
    refine RunD.ot0 (x := .v (.bool false)) rfl rfl rfl rfl (.pickF rfl rfl) rfl ?_
    refine RunD.ot0 (x := .v (.bool false)) rfl rfl rfl rfl (.moveX rfl) rfl ?_
    refine RunD.xn rfl rfl rfl rfl rfl rfl ?_
    refine RunD.xn rfl rfl rfl rfl rfl rfl ?_
    refine RunD.xn rfl rfl rfl rfl rfl rfl ?_
    refine RunD.xn rfl rfl rfl rfl rfl rfl ?_
    refine RunD.xn rfl rfl rfl rfl rfl rfl ?_
    refine RunD.xn rfl rfl rfl rfl rfl rfl ?_
    refine RunD.xn rfl rfl rfl rfl rfl rfl ?_
    refine RunD.xn rfl rfl rfl rfl rfl rfl ?_
    refine RunD.xn rfl rfl rfl rfl rfl rfl ?_
    refine RunD.xn rfl rfl rfl rfl rfl rfl ?_
    refine RunD.xn rfl rfl rfl rfl rfl rfl ?_
    refine RunD.xn rfl rfl rfl rfl rfl rfl ?_
    refine RunD.xn rfl rfl rfl rfl rfl rfl ?_
    refine RunD.xn rfl rfl rfl rfl rfl rfl ?_
    refine RunD.xn rfl rfl rfl rfl rfl rfl ?_
    refine RunD.xn rfl rfl rfl rfl rfl rfl ?_
    refine RunD.xn rfl rfl rfl rfl rfl rfl ?_
    refine RunD.ot0 (x := .v (.bool false)) rfl rfl rfl rfl (.pickF rfl rfl) rfl ?_
    refine RunD.ot0 (x := .v (.bool false)) rfl rfl rfl rfl (.assignX rfl) rfl ?_
    refine RunD.nil (by kernel_rfl) ⟨rfl, rfl, ?_⟩
    obtain rfl := si H
    refine T.sub (sub_to (st' := ⟨[(4, .v (.bool false))], [], 8, []⟩) [] (by decide) rfl rfl (⟨⟨_, rfl, .one .v⟩, trivial⟩) (trivial)) ?_
    refine T.ret ?_
    exact RetOk.same [.v (.bool false)] ⟨rfl, trivial⟩ rfl rfl rfl
set_option maxHeartbeats 4000000 in
theorem ref6_is_pc (al : Bool) (k : Nat) (a0 : (List Bool)) (a1 : Int) (o : Bool) (H : ref6_is k a0 a1 = some o) : PC Try.prog al 137 [.lst (List.map eB a0), .v (.int .i64 a1)] (.v (.bool o)) := by
  unfold ref6_is at H
  refine PC.of_T Try.func137 rfl rfl (n := 19) rfl rfl (.inr rfl) ?_
  intro base B w0
  refine T.st (st' := ⟨[(0, .lst (List.map eB a0)), (1, .v (.int .i64 a1))], [], 0, []⟩) rfl ?_
  refine T.seq ?_
  refine T.region ?_
  refine RunT.ot0 (x := .v (.bool false)) rfl rfl rfl rfl (.assignX rfl) ?_
  refine RunT.nil ?_
  refine T.seq ?_
  refine T.region ?_
  refine RunT.ot0 (x := .v (.int .i64 a1)) rfl rfl rfl rfl (.moveX rfl) ?_
  refine RunT.ot0 (x := .v (.bool (decide (0 ≤ a1)))) rfl rfl rfl rfl (.bin rfl rfl (fun w => b_geq w) rfl) ?_
  refine RunT.ot0 (x := .v (.bool (decide (0 ≤ a1)))) rfl rfl rfl rfl (.moveX rfl) ?_
  refine RunT.cases (t := 7) (c := decide (0 ≤ a1)) rfl (fun g1 => ?_) (fun g1 => ?_)
  · replace H := ct H g1
    refine RunT.gt0 (x := .v (.int .i64 a1)) rfl rfl rfl (bo g1) rfl rfl (.moveX rfl) ?_
    refine RunT.gt0 (x := .lst (List.map eB a0)) rfl rfl rfl (bo g1) rfl rfl (.moveX rfl) ?_
    refine RunT.gt0 (x := .v (.int .i64 (a0.length : Int))) rfl rfl rfl (bo g1) rfl rfl (.lenLm Try.underlying43 rfl rfl) ?_
    refine RunT.gt0 (x := .v (.bool (decide (a1 < (a0.length : Int))))) rfl rfl rfl (bo g1) rfl rfl (.bin rfl rfl (fun w => b_lss w) rfl) ?_
    refine RunT.ot0 (x := .v (.bool (decide (a1 < (a0.length : Int))))) rfl rfl rfl rfl (.pickT (bo g1) rfl) ?_
    refine RunT.ot0 (x := .v (.bool (decide (a1 < (a0.length : Int))))) rfl rfl rfl rfl (.moveX rfl) ?_
    refine RunT.cases (t := 13) (c := decide (a1 < (a0.length : Int))) rfl (fun g2 => ?_) (fun g2 => ?_)
    · replace H := ct H g2
      refine RunT.gt0 (x := .lst (List.map eB a0)) rfl rfl rfl (bo g2) rfl rfl (.moveX rfl) ?_
      refine RunT.gt0 (x := .v (.int .i64 a1)) rfl rfl rfl (bo g2) rfl rfl (.moveX rfl) ?_
      obtain ⟨y3, h4, H⟩ := bs H
      refine RunT.gt0 (x := .rptr [.v (.bool y3)]) rfl rfl rfl (bo g2) rfl rfl (.idxLX h4 enc_B sl43 rfl rfl rfl) ?_
      refine RunT.gt0 (x := .v (.bool y3)) rfl rfl rfl (bo g2) rfl rfl (.loadR ty4 rfl rfl) ?_
      refine RunT.ot0 (x := .v (.bool y3)) rfl rfl rfl rfl (.pickT (bo g2) rfl) ?_
      refine RunT.ot0 (x := .v (.bool y3)) rfl rfl rfl rfl (.assignX rfl) ?_
      refine RunT.nil ?_
      obtain rfl := si H
      refine T.sub (sub_to (st' := ⟨[(4, .v (.bool y3))], [], 8, []⟩) [] (by decide) rfl rfl (⟨⟨_, rfl, .one .v⟩, trivial⟩) (trivial)) ?_
      refine T.ret ?_
      exact RetOk.same [.v (.bool y3)] ⟨rfl, trivial⟩ rfl rfl rfl
    · replace H := cf H g2
      refine RunT.xn rfl rfl rfl (bo g2) rfl rfl ?_
      refine RunT.xn rfl rfl rfl (bo g2) rfl rfl ?_
      refine RunT.xn rfl rfl rfl (bo g2) rfl rfl ?_
      refine RunT.xn rfl rfl rfl (bo g2) rfl rfl ?_
      refine RunT.ot0 (x := .v (.bool false)) rfl rfl rfl rfl (.pickF (bo g2) rfl) ?_
      refine RunT.ot0 (x := .v (.bool false)) rfl rfl rfl rfl (.assignX rfl) ?_
      refine RunT.nil ?_
      obtain rfl := si H
      refine T.sub (sub_to (st' := ⟨[(4, .v (.bool false))], [], 8, []⟩) [] (by decide) rfl rfl (⟨⟨_, rfl, .one .v⟩, trivial⟩) (trivial)) ?_
      refine T.ret ?_
      exact RetOk.same [.v (.bool false)] ⟨rfl, trivial⟩ rfl rfl rfl
  · replace H := cf H g1
    refine RunT.xn rfl rfl rfl (bo g1) rfl rfl ?_
    refine RunT.xn rfl rfl rfl (bo g1) rfl rfl ?_
    refine RunT.xn rfl rfl rfl (bo g1) rfl rfl ?_
    refine RunT.xn rfl rfl rfl (bo g1) rfl rfl ?_
    refine RunT.ot0 (x := .v (.bool false)) rfl rfl rfl rfl (.pickF (bo g1) rfl) ?_
    refine RunT.ot0 (x := .v (.bool false)) rfl rfl rfl rfl (.moveX rfl) ?_
    refine RunT.xn rfl rfl rfl rfl rfl rfl ?_
    refine RunT.xn rfl rfl rfl rfl rfl rfl ?_
    refine RunT.xn rfl rfl rfl rfl rfl rfl ?_
    refine RunT.xn rfl rfl rfl rfl rfl rfl ?_
    refine RunT.ot0 (x := .v (.bool false)) rfl rfl rfl rfl (.pickF rfl rfl) ?_
    refine RunT.ot0 (x := .v (.bool false)) rfl rfl rfl rfl (.assignX rfl) ?_
    refine RunT.nil ?_
    obtain rfl := si H
    refine T.sub (sub_to (st' := ⟨[(4, .v (.bool false))], [], 8, []⟩) [] (by decide) rfl rfl (⟨⟨_, rfl, .one .v⟩, trivial⟩) (trivial)) ?_
    refine T.ret ?_
    exact RetOk.same [.v (.bool false)] ⟨rfl, trivial⟩ rfl rfl rfl
set_option maxHeartbeats 4000000 in
theorem ref6_long_pc (al : Bool) (k : Nat) (a0 : Venue) (a1 : (List Bool)) (a2 : Int) (o : Int) (H : ref6_long k a0 a1 a2 = some o) : PC Try.prog al 102 [.agg [.lst (List.map eSeat a0.Seats), .v (.int .i64 a0.Gap), .v (.int .i64 a0.Radius), .lst (List.map eI a0.Kills), .lst (List.map ePole a0.Poles)], .lst (List.map eB a1), .v (.int .i64 a2)] (.v (.int .i64 o)) := by
  unfold ref6_long at H
  refine PC.of_T Try.func102 rfl rfl (n := 34) rfl rfl (.inr rfl) ?_
  intro base B w0
  refine T.st (st' := ⟨[(0, .agg [.lst (List.map eSeat a0.Seats), .v (.int .i64 a0.Gap), .v (.int .i64 a0.Radius), .lst (List.map eI a0.Kills), .lst (List.map ePole a0.Poles)]), (1, .lst (List.map eB a1)), (2, .v (.int .i64 a2))], [], 0, []⟩) rfl ?_
  refine T.seq ?_
  refine T.region ?_
  refine RunT.ot1 (x := .ptr 0 0) (p0 := (0, some (.box [.lst (List.map eSeat a0.Seats), .v (.int .i64 a0.Gap), .v (.int .i64 a0.Radius), .lst (List.map eI a0.Kills), .lst (List.map ePole a0.Poles)]))) (n' := 8) rfl rfl rfl rfl (.boxX rfl rfl rfl) rfl ?_
  refine RunT.ot0 (x := .v (.int .i64 0)) rfl rfl rfl rfl (.assignX rfl) ?_
  refine RunT.nil ?_
  refine T.seq ?_
  obtain ⟨o6, E7, HO8⟩ := bs H
  refine T.cut (⟨[(1, .lst (List.map eB a1)), (2, .v (.int .i64 a2)), (3, .ptr 0 0), (17, .v (.bool o6))], [(0, some (.box [.lst (List.map eSeat a0.Seats), .v (.int .i64 a0.Gap), .v (.int .i64 a0.Radius), .lst (List.map eI a0.Kills), .lst (List.map ePole a0.Poles)]))], 8, []⟩) ?_ ?_
  · have H := E7
    refine T.region ?_
    refine RunT.ot0 (x := .agg [.lst (List.map eSeat a0.Seats), .v (.int .i64 a0.Gap), .v (.int .i64 a0.Radius), .lst (List.map eI a0.Kills), .lst (List.map ePole a0.Poles)]) rfl rfl rfl rfl (.loadP ty26 rfl rfl rfl) ?_
    refine RunT.ot0 (x := .v (.int .i64 a2)) rfl rfl rfl rfl (.moveX rfl) ?_
    obtain ⟨r9, h10, H⟩ := bs H
    refine RunT.ot0 (x := .v (.bool r9)) rfl rfl rfl rfl (.callp (ref6_seat_pc false k a0 a2 r9 h10) rfl ⟨(.agg' ⟨.lst, .v, .v, .lst, .lst, trivial⟩), (.one .v), trivial⟩ rfl rfl rfl) ?_
    refine RunT.ot0 (x := .v (.bool (!r9))) rfl rfl rfl rfl (.un rfl (fun w => u_not w) rfl) ?_
    refine RunT.ot0 (x := .v (.bool (!r9))) rfl rfl rfl rfl (.moveX rfl) ?_
    refine RunT.cases (t := 12) (c := !r9) rfl (fun g11 => ?_) (fun g11 => ?_)
    · replace H := ct H g11
      refine RunT.xn rfl rfl rfl (bo g11) rfl rfl ?_
      refine RunT.xn rfl rfl rfl (bo g11) rfl rfl ?_
      refine RunT.xn rfl rfl rfl (bo g11) rfl rfl ?_
      refine RunT.xn rfl rfl rfl (bo g11) rfl rfl ?_
      refine RunT.ot0 (x := .v (.bool true)) rfl rfl rfl rfl (.pickT (bo g11) rfl) ?_
      refine RunT.nil ?_
      obtain rfl := si H
      exact (sub_to [some 0] (by decide) rfl rfl (⟨⟨_, rfl, .one .lst⟩, ⟨⟨_, rfl, .one .v⟩, ⟨⟨_, rfl, .one (.ptr rfl)⟩, ⟨⟨_, rfl, .one .v⟩, trivial⟩⟩⟩⟩) (⟨⟨rfl, .inl ⟨_, _, rfl, rfl, .box ⟨.lst, .v, .v, .lst, .lst, trivial⟩⟩⟩, trivial⟩))
    · replace H := cf H g11
      refine RunT.gt0 (x := .lst (List.map eB a1)) rfl rfl rfl (bo g11) rfl rfl (.moveX rfl) ?_
      refine RunT.gt0 (x := .v (.int .i64 a2)) rfl rfl rfl (bo g11) rfl rfl (.moveX rfl) ?_
      obtain ⟨r12, h13, H⟩ := bs H
      refine RunT.gt0 (x := .v (.bool r12)) rfl rfl rfl (bo g11) rfl rfl (.callp (ref6_is_pc false k a1 a2 r12 h13) rfl ⟨(.one .lst), (.one .v), trivial⟩ rfl rfl rfl) ?_
      refine RunT.gt0 (x := .v (.bool (!r12))) rfl rfl rfl (bo g11) rfl rfl (.un rfl (fun w => u_not w) rfl) ?_
      refine RunT.ot0 (x := .v (.bool (!r12))) rfl rfl rfl rfl (.pickF (bo g11) rfl) ?_
      refine RunT.nil ?_
      obtain rfl := si H
      exact (sub_to [some 0] (by decide) rfl rfl (⟨⟨_, rfl, .one .lst⟩, ⟨⟨_, rfl, .one .v⟩, ⟨⟨_, rfl, .one (.ptr rfl)⟩, ⟨⟨_, rfl, .one .v⟩, trivial⟩⟩⟩⟩) (⟨⟨rfl, .inl ⟨_, _, rfl, rfl, .box ⟨.lst, .v, .v, .lst, .lst, trivial⟩⟩⟩, trivial⟩))
  · have H := HO8
    refine T.cond2 (t := o6) rfl (fun c14 => ?_) (fun c14 => ?_)
    · replace H := ct H c14
      refine T.seq ?_
      refine T.sub (sub_pick [] [] (st' := ⟨[], [], 8, []⟩) rfl rfl rfl rfl rfl) ?_
      refine T.region ?_
      refine RunT.ot0 (x := .v (.int .i64 0)) rfl rfl rfl rfl (.assignX rfl) ?_
      refine RunT.nil ?_
      obtain rfl := si H
      refine T.sub (sub_to (st' := ⟨[(6, .v (.int .i64 0))], [], 8, []⟩) [] (by decide) rfl rfl (⟨⟨_, rfl, .one .v⟩, trivial⟩) (trivial)) ?_
      refine T.ret ?_
      exact RetOk.same [.v (.int .i64 0)] ⟨rfl, trivial⟩ rfl rfl rfl
    · replace H := cf H c14
      refine T.skip ?_
      refine T.seq ?_
      refine T.region ?_
      refine RunT.ot0 (x := .v (.int .i64 1)) rfl rfl rfl rfl (.assignX rfl) ?_
      refine RunT.nil ?_
      obtain ⟨o28, E29, HO30⟩ := bs H
      refine T.cut (⟨[(7, .v (.int .i64 o28))], [], 8, []⟩) ?_ ?_
      · have H := E29
        refine T.block ?_
        refine T.loopS (fun n s => ∃ (v31 : Int), ref6_long_l0 k a0 a1 a2 n v31 = some o28 ∧ s = ⟨[(1, .lst (List.map eB a1)), (2, .v (.int .i64 a2)), (3, .ptr 0 0), (7, .v (.int .i64 v31))], [(0, some (.box [.lst (List.map eSeat a0.Seats), .v (.int .i64 a0.Gap), .v (.int .i64 a0.Radius), .lst (List.map eI a0.Kills), .lst (List.map ePole a0.Poles)]))], 8, []⟩) k ⟨_, ⟨1, H, rfl⟩, sub_to [some 0] (by decide) rfl rfl (⟨⟨_, rfl, .one .lst⟩, ⟨⟨_, rfl, .one .v⟩, ⟨⟨_, rfl, .one (.ptr rfl)⟩, ⟨⟨_, rfl, .one .v⟩, trivial⟩⟩⟩⟩) (⟨⟨rfl, .inl ⟨_, _, rfl, rfl, .box ⟨.lst, .v, .v, .lst, .lst, trivial⟩⟩⟩, trivial⟩)⟩ ?_
        rintro n s ⟨v31, H, rfl⟩
        rcases n with _ | n
        · cases (show none = some _ from H)
        rw [ref6_long_l0] at H
        refine T.seq ?_
        refine T.seq ?_
        refine T.sub (sub_pick [1, 2, 3, 7] [0] (st' := ⟨[(1, .lst (List.map eB a1)), (2, .v (.int .i64 a2)), (3, .ptr 0 0), (7, .v (.int .i64 v31))], [(0, some (.box [.lst (List.map eSeat a0.Seats), .v (.int .i64 a0.Gap), .v (.int .i64 a0.Radius), .lst (List.map eI a0.Kills), .lst (List.map ePole a0.Poles)]))], 8, []⟩) rfl rfl rfl rfl rfl) ?_
        refine T.region ?_
        refine RunT.ot0 (x := .agg [.lst (List.map eSeat a0.Seats), .v (.int .i64 a0.Gap), .v (.int .i64 a0.Radius), .lst (List.map eI a0.Kills), .lst (List.map ePole a0.Poles)]) rfl rfl rfl rfl (.loadP ty26 rfl rfl rfl) ?_
        refine RunT.ot0 (x := .v (.int .i64 a2)) rfl rfl rfl rfl (.moveX rfl) ?_
        refine RunT.ot0 (x := .v (.int .i64 v31)) rfl rfl rfl rfl (.moveX rfl) ?_
        refine RunT.ot0 (x := .v (.int .i64 (wr (a2 + v31)))) rfl rfl rfl rfl (.bin rfl rfl (fun w => b_addw w) rfl) ?_
        refine RunT.ot0 (x := .v (.int .i64 (wr ((wr (a2 + v31)) - 1)))) rfl rfl rfl rfl (.bin rfl rfl (fun w => b_subw w) rfl) ?_
        obtain ⟨r32, h33, H⟩ := bs H
        refine RunT.ot0 (x := .v (.bool r32)) rfl rfl rfl rfl (.callp (ref6_next_pc false k a0 (wr ((wr (a2 + v31)) - 1)) r32 h33) rfl ⟨(.agg' ⟨.lst, .v, .v, .lst, .lst, trivial⟩), (.one .v), trivial⟩ rfl rfl rfl) ?_
        refine RunT.ot0 (x := .v (.bool r32)) rfl rfl rfl rfl (.moveX rfl) ?_
        refine RunT.cases (t := 24) (c := r32) rfl (fun g34 => ?_) (fun g34 => ?_)
        · replace H := ct H g34
          refine RunT.gt0 (x := .lst (List.map eB a1)) rfl rfl rfl (bo g34) rfl rfl (.moveX rfl) ?_
          refine RunT.gt0 (x := .v (.int .i64 a2)) rfl rfl rfl (bo g34) rfl rfl (.moveX rfl) ?_
          refine RunT.gt0 (x := .v (.int .i64 v31)) rfl rfl rfl (bo g34) rfl rfl (.moveX rfl) ?_
          refine RunT.gt0 (x := .v (.int .i64 (wr (a2 + v31)))) rfl rfl rfl (bo g34) rfl rfl (.bin rfl rfl (fun w => b_addw w) rfl) ?_
          obtain ⟨r35, h36, H⟩ := bs H
          refine RunT.gt0 (x := .v (.bool r35)) rfl rfl rfl (bo g34) rfl rfl (.callp (ref6_is_pc false k a1 (wr (a2 + v31)) r35 h36) rfl ⟨(.one .lst), (.one .v), trivial⟩ rfl rfl rfl) ?_
          refine RunT.ot0 (x := .v (.bool r35)) rfl rfl rfl rfl (.pickT (bo g34) rfl) ?_
          refine RunT.nil ?_
          refine T.cond2 (t := r35) rfl (fun c37 => ?_) (fun c37 => ?_)
          · replace H := ct H c37
            refine T.skip ?_
            refine T.block ?_
            refine T.region ?_
            refine RunT.ot0 (x := .v (.int .i64 v31)) rfl rfl rfl rfl (.moveX rfl) ?_
            refine RunT.ot0 (x := .v (.int .i64 (wr (v31 + 1)))) rfl rfl rfl rfl (.bin rfl rfl (fun w => b_addw w) rfl) ?_
            refine RunT.ot0 (x := .v (.int .i64 (wr (v31 + 1)))) rfl rfl rfl rfl (.assignX rfl) ?_
            refine RunT.nil ?_
            exact ⟨n, Nat.lt_succ_self n, _, ⟨wr (v31 + 1), H, rfl⟩, (sub_to [some 0] (by decide) rfl rfl (⟨⟨_, rfl, .one .lst⟩, ⟨⟨_, rfl, .one .v⟩, ⟨⟨_, rfl, .one (.ptr rfl)⟩, ⟨⟨_, rfl, .one .v⟩, trivial⟩⟩⟩⟩) (⟨⟨rfl, .inl ⟨_, _, rfl, rfl, .box ⟨.lst, .v, .v, .lst, .lst, trivial⟩⟩⟩, trivial⟩))⟩
          · replace H := cf H c37
            refine T.exit ?_
            obtain rfl := si H
            exact (sub_to [] (by decide) rfl rfl (⟨⟨_, rfl, .one .v⟩, trivial⟩) (trivial))
        · replace H := cf H g34
          refine RunT.xn rfl rfl rfl (bo g34) rfl rfl ?_
          refine RunT.xn rfl rfl rfl (bo g34) rfl rfl ?_
          refine RunT.xn rfl rfl rfl (bo g34) rfl rfl ?_
          refine RunT.xn rfl rfl rfl (bo g34) rfl rfl ?_
          refine RunT.xn rfl rfl rfl (bo g34) rfl rfl ?_
          refine RunT.ot0 (x := .v (.bool false)) rfl rfl rfl rfl (.pickF (bo g34) rfl) ?_
          refine RunT.nil ?_
          refine T.condF rfl ?_
          refine T.exit ?_
          obtain rfl := si H
          exact (sub_to [] (by decide) rfl rfl (⟨⟨_, rfl, .one .v⟩, trivial⟩) (trivial))
      · have H := HO30
        refine T.seq ?_
        refine T.sub (sub_pick [7] [] (st' := ⟨[(7, .v (.int .i64 o28))], [], 8, []⟩) rfl rfl rfl rfl rfl) ?_
        refine T.region ?_
        refine RunT.ot0 (x := .v (.int .i64 o28)) rfl rfl rfl rfl (.moveX rfl) ?_
        refine RunT.ot0 (x := .v (.int .i64 o28)) rfl rfl rfl rfl (.assignX rfl) ?_
        refine RunT.nil ?_
        obtain rfl := si H
        refine T.sub (sub_to (st' := ⟨[(6, .v (.int .i64 o28))], [], 8, []⟩) [] (by decide) rfl rfl (⟨⟨_, rfl, .one .v⟩, trivial⟩) (trivial)) ?_
        refine T.ret ?_
        exact RetOk.same [.v (.int .i64 o28)] ⟨rfl, trivial⟩ rfl rfl rfl
set_option maxHeartbeats 4000000 in
theorem ref6_MayParty_pc (al : Bool) (k : Nat) (a0 : Party) (o : Bool) (H : ref6_MayParty k a0 = some o) : PC Try.prog al 138 [.agg [.v (.int .i64 a0.Size), .v (.int .i64 a0.Wheels)]] (.v (.bool o)) := by
  unfold ref6_MayParty at H
  refine PC.of_T Try.func138 rfl rfl (n := 31) rfl rfl (.inr rfl) ?_
  intro base B w0
  refine T.st (st' := ⟨[(0, .agg [.v (.int .i64 a0.Size), .v (.int .i64 a0.Wheels)])], [], 0, []⟩) rfl ?_
  refine T.seq ?_
  refine T.region ?_
  refine RunT.ot1 (x := .ptr 0 0) (p0 := (0, some (.box [.v (.int .i64 a0.Size), .v (.int .i64 a0.Wheels)]))) (n' := 8) rfl rfl rfl rfl (.boxX rfl rfl rfl) rfl ?_
  refine RunT.ot0 (x := .v (.bool false)) rfl rfl rfl rfl (.assignX rfl) ?_
  refine RunT.nil ?_
  refine T.seq ?_
  refine T.region ?_
  refine RunT.ot0 (x := .ptr 0 0) rfl rfl rfl rfl (.fieldPX fl66_0 rfl rfl) ?_
  refine RunT.ot0 (x := .v (.int .i64 a0.Size)) rfl rfl rfl rfl (.loadP ty3 rfl rfl rfl) ?_
  refine RunT.ot0 (x := .v (.bool (decide (1 ≤ a0.Size)))) rfl rfl rfl rfl (.bin rfl rfl (fun w => b_geq w) rfl) ?_
  refine RunT.ot0 (x := .v (.bool (decide (1 ≤ a0.Size)))) rfl rfl rfl rfl (.moveX rfl) ?_
  refine RunT.cases (t := 6) (c := decide (1 ≤ a0.Size)) rfl (fun g1 => ?_) (fun g1 => ?_)
  · replace H := ct H g1
    refine RunT.gt0 (x := .ptr 0 0) rfl rfl rfl (bo g1) rfl rfl (.fieldPX fl66_0 rfl rfl) ?_
    refine RunT.gt0 (x := .v (.int .i64 a0.Size)) rfl rfl rfl (bo g1) rfl rfl (.loadP ty3 rfl rfl rfl) ?_
    refine RunT.gt0 (x := .v (.bool (decide (a0.Size ≤ 8)))) rfl rfl rfl (bo g1) rfl rfl (.bin rfl rfl (fun w => b_leq w) rfl) ?_
    refine RunT.ot0 (x := .v (.bool (decide (a0.Size ≤ 8)))) rfl rfl rfl rfl (.pickT (bo g1) rfl) ?_
    refine RunT.ot0 (x := .v (.bool (decide (a0.Size ≤ 8)))) rfl rfl rfl rfl (.moveX rfl) ?_
    refine RunT.cases (t := 11) (c := decide (a0.Size ≤ 8)) rfl (fun g2 => ?_) (fun g2 => ?_)
    · replace H := ct H g2
      refine RunT.gt0 (x := .ptr 0 1) rfl rfl rfl (bo g2) rfl rfl (.fieldPX fl66_1 rfl rfl) ?_
      refine RunT.gt0 (x := .v (.int .i64 a0.Wheels)) rfl rfl rfl (bo g2) rfl rfl (.loadP ty3 rfl rfl rfl) ?_
      refine RunT.gt0 (x := .v (.bool (decide (0 ≤ a0.Wheels)))) rfl rfl rfl (bo g2) rfl rfl (.bin rfl rfl (fun w => b_geq w) rfl) ?_
      refine RunT.ot0 (x := .v (.bool (decide (0 ≤ a0.Wheels)))) rfl rfl rfl rfl (.pickT (bo g2) rfl) ?_
      refine RunT.ot0 (x := .v (.bool (decide (0 ≤ a0.Wheels)))) rfl rfl rfl rfl (.moveX rfl) ?_
      refine RunT.cases (t := 16) (c := decide (0 ≤ a0.Wheels)) rfl (fun g3 => ?_) (fun g3 => ?_)
      · replace H := ct H g3
        refine RunT.gt0 (x := .ptr 0 1) rfl rfl rfl (bo g3) rfl rfl (.fieldPX fl66_1 rfl rfl) ?_
        refine RunT.gt0 (x := .v (.int .i64 a0.Wheels)) rfl rfl rfl (bo g3) rfl rfl (.loadP ty3 rfl rfl rfl) ?_
        refine RunT.gt0 (x := .v (.bool (decide (a0.Wheels ≤ 2)))) rfl rfl rfl (bo g3) rfl rfl (.bin rfl rfl (fun w => b_leq w) rfl) ?_
        refine RunT.ot0 (x := .v (.bool (decide (a0.Wheels ≤ 2)))) rfl rfl rfl rfl (.pickT (bo g3) rfl) ?_
        refine RunT.ot0 (x := .v (.bool (decide (a0.Wheels ≤ 2)))) rfl rfl rfl rfl (.moveX rfl) ?_
        refine RunT.cases (t := 21) (c := decide (a0.Wheels ≤ 2)) rfl (fun g4 => ?_) (fun g4 => ?_)
        · replace H := ct H g4
          refine RunT.gt0 (x := .ptr 0 1) rfl rfl rfl (bo g4) rfl rfl (.fieldPX fl66_1 rfl rfl) ?_
          refine RunT.gt0 (x := .v (.int .i64 a0.Wheels)) rfl rfl rfl (bo g4) rfl rfl (.loadP ty3 rfl rfl rfl) ?_
          refine RunT.gt0 (x := .ptr 0 0) rfl rfl rfl (bo g4) rfl rfl (.fieldPX fl66_0 rfl rfl) ?_
          refine RunT.gt0 (x := .v (.int .i64 a0.Size)) rfl rfl rfl (bo g4) rfl rfl (.loadP ty3 rfl rfl rfl) ?_
          refine RunT.gt0 (x := .ptr 0 1) rfl rfl rfl (bo g4) rfl rfl (.fieldPX fl66_1 rfl rfl) ?_
          refine RunT.gt0 (x := .v (.int .i64 a0.Wheels)) rfl rfl rfl (bo g4) rfl rfl (.loadP ty3 rfl rfl rfl) ?_
          refine RunT.gt0 (x := .v (.int .i64 (wr (a0.Size - a0.Wheels)))) rfl rfl rfl (bo g4) rfl rfl (.bin rfl rfl (fun w => b_subw w) rfl) ?_
          refine RunT.gt0 (x := .v (.bool (decide (a0.Wheels ≤ (wr (a0.Size - a0.Wheels)))))) rfl rfl rfl (bo g4) rfl rfl (.bin rfl rfl (fun w => b_leq w) rfl) ?_
          refine RunT.ot0 (x := .v (.bool (decide (a0.Wheels ≤ (wr (a0.Size - a0.Wheels)))))) rfl rfl rfl rfl (.pickT (bo g4) rfl) ?_
          refine RunT.ot0 (x := .v (.bool (decide (a0.Wheels ≤ (wr (a0.Size - a0.Wheels)))))) rfl rfl rfl rfl (.assignX rfl) ?_
          refine RunT.nil ?_
          obtain rfl := si H
          refine T.sub (sub_to (st' := ⟨[(2, .v (.bool (decide (a0.Wheels ≤ (wr (a0.Size - a0.Wheels))))))], [], 8, []⟩) [] (by decide) rfl rfl (⟨⟨_, rfl, .one .v⟩, trivial⟩) (trivial)) ?_
          refine T.ret ?_
          exact RetOk.same [.v (.bool (decide (a0.Wheels ≤ (wr (a0.Size - a0.Wheels)))))] ⟨rfl, trivial⟩ rfl rfl rfl
        · replace H := cf H g4
          refine RunT.xn rfl rfl rfl (bo g4) rfl rfl ?_
          refine RunT.xn rfl rfl rfl (bo g4) rfl rfl ?_
          refine RunT.xn rfl rfl rfl (bo g4) rfl rfl ?_
          refine RunT.xn rfl rfl rfl (bo g4) rfl rfl ?_
          refine RunT.xn rfl rfl rfl (bo g4) rfl rfl ?_
          refine RunT.xn rfl rfl rfl (bo g4) rfl rfl ?_
          refine RunT.xn rfl rfl rfl (bo g4) rfl rfl ?_
          refine RunT.xn rfl rfl rfl (bo g4) rfl rfl ?_
          refine RunT.ot0 (x := .v (.bool false)) rfl rfl rfl rfl (.pickF (bo g4) rfl) ?_
          refine RunT.ot0 (x := .v (.bool false)) rfl rfl rfl rfl (.assignX rfl) ?_
          refine RunT.nil ?_
          obtain rfl := si H
          refine T.sub (sub_to (st' := ⟨[(2, .v (.bool false))], [], 8, []⟩) [] (by decide) rfl rfl (⟨⟨_, rfl, .one .v⟩, trivial⟩) (trivial)) ?_
          refine T.ret ?_
          exact RetOk.same [.v (.bool false)] ⟨rfl, trivial⟩ rfl rfl rfl
      · replace H := cf H g3
        refine RunT.xn rfl rfl rfl (bo g3) rfl rfl ?_
        refine RunT.xn rfl rfl rfl (bo g3) rfl rfl ?_
        refine RunT.xn rfl rfl rfl (bo g3) rfl rfl ?_
        refine RunT.ot0 (x := .v (.bool false)) rfl rfl rfl rfl (.pickF (bo g3) rfl) ?_
        refine RunT.ot0 (x := .v (.bool false)) rfl rfl rfl rfl (.moveX rfl) ?_
        refine RunT.xn rfl rfl rfl rfl rfl rfl ?_
        refine RunT.xn rfl rfl rfl rfl rfl rfl ?_
        refine RunT.xn rfl rfl rfl rfl rfl rfl ?_
        refine RunT.xn rfl rfl rfl rfl rfl rfl ?_
        refine RunT.xn rfl rfl rfl rfl rfl rfl ?_
        refine RunT.xn rfl rfl rfl rfl rfl rfl ?_
        refine RunT.xn rfl rfl rfl rfl rfl rfl ?_
        refine RunT.xn rfl rfl rfl rfl rfl rfl ?_
        refine RunT.ot0 (x := .v (.bool false)) rfl rfl rfl rfl (.pickF rfl rfl) ?_
        refine RunT.ot0 (x := .v (.bool false)) rfl rfl rfl rfl (.assignX rfl) ?_
        refine RunT.nil ?_
        obtain rfl := si H
        refine T.sub (sub_to (st' := ⟨[(2, .v (.bool false))], [], 8, []⟩) [] (by decide) rfl rfl (⟨⟨_, rfl, .one .v⟩, trivial⟩) (trivial)) ?_
        refine T.ret ?_
        exact RetOk.same [.v (.bool false)] ⟨rfl, trivial⟩ rfl rfl rfl
    · replace H := cf H g2
      refine RunT.xn rfl rfl rfl (bo g2) rfl rfl ?_
      refine RunT.xn rfl rfl rfl (bo g2) rfl rfl ?_
      refine RunT.xn rfl rfl rfl (bo g2) rfl rfl ?_
      refine RunT.ot0 (x := .v (.bool false)) rfl rfl rfl rfl (.pickF (bo g2) rfl) ?_
      refine RunT.ot0 (x := .v (.bool false)) rfl rfl rfl rfl (.moveX rfl) ?_
      refine RunT.xn rfl rfl rfl rfl rfl rfl ?_
      refine RunT.xn rfl rfl rfl rfl rfl rfl ?_
      refine RunT.xn rfl rfl rfl rfl rfl rfl ?_
      refine RunT.ot0 (x := .v (.bool false)) rfl rfl rfl rfl (.pickF rfl rfl) ?_
      refine RunT.ot0 (x := .v (.bool false)) rfl rfl rfl rfl (.moveX rfl) ?_
      refine RunT.xn rfl rfl rfl rfl rfl rfl ?_
      refine RunT.xn rfl rfl rfl rfl rfl rfl ?_
      refine RunT.xn rfl rfl rfl rfl rfl rfl ?_
      refine RunT.xn rfl rfl rfl rfl rfl rfl ?_
      refine RunT.xn rfl rfl rfl rfl rfl rfl ?_
      refine RunT.xn rfl rfl rfl rfl rfl rfl ?_
      refine RunT.xn rfl rfl rfl rfl rfl rfl ?_
      refine RunT.xn rfl rfl rfl rfl rfl rfl ?_
      refine RunT.ot0 (x := .v (.bool false)) rfl rfl rfl rfl (.pickF rfl rfl) ?_
      refine RunT.ot0 (x := .v (.bool false)) rfl rfl rfl rfl (.assignX rfl) ?_
      refine RunT.nil ?_
      obtain rfl := si H
      refine T.sub (sub_to (st' := ⟨[(2, .v (.bool false))], [], 8, []⟩) [] (by decide) rfl rfl (⟨⟨_, rfl, .one .v⟩, trivial⟩) (trivial)) ?_
      refine T.ret ?_
      exact RetOk.same [.v (.bool false)] ⟨rfl, trivial⟩ rfl rfl rfl
  · replace H := cf H g1
    refine RunT.xn rfl rfl rfl (bo g1) rfl rfl ?_
    refine RunT.xn rfl rfl rfl (bo g1) rfl rfl ?_
    refine RunT.xn rfl rfl rfl (bo g1) rfl rfl ?_
    refine RunT.ot0 (x := .v (.bool false)) rfl rfl rfl rfl (.pickF (bo g1) rfl) ?_
    refine RunT.ot0 (x := .v (.bool false)) rfl rfl rfl rfl (.moveX rfl) ?_
    refine RunT.xn rfl rfl rfl rfl rfl rfl ?_
    refine RunT.xn rfl rfl rfl rfl rfl rfl ?_
    refine RunT.xn rfl rfl rfl rfl rfl rfl ?_
    refine RunT.ot0 (x := .v (.bool false)) rfl rfl rfl rfl (.pickF rfl rfl) ?_
    refine RunT.ot0 (x := .v (.bool false)) rfl rfl rfl rfl (.moveX rfl) ?_
    refine RunT.xn rfl rfl rfl rfl rfl rfl ?_
    refine RunT.xn rfl rfl rfl rfl rfl rfl ?_
    refine RunT.xn rfl rfl rfl rfl rfl rfl ?_
    refine RunT.ot0 (x := .v (.bool false)) rfl rfl rfl rfl (.pickF rfl rfl) ?_
    refine RunT.ot0 (x := .v (.bool false)) rfl rfl rfl rfl (.moveX rfl) ?_
    refine RunT.xn rfl rfl rfl rfl rfl rfl ?_
    refine RunT.xn rfl rfl rfl rfl rfl rfl ?_
    refine RunT.xn rfl rfl rfl rfl rfl rfl ?_
    refine RunT.xn rfl rfl rfl rfl rfl rfl ?_
    refine RunT.xn rfl rfl rfl rfl rfl rfl ?_
    refine RunT.xn rfl rfl rfl rfl rfl rfl ?_
    refine RunT.xn rfl rfl rfl rfl rfl rfl ?_
    refine RunT.xn rfl rfl rfl rfl rfl rfl ?_
    refine RunT.ot0 (x := .v (.bool false)) rfl rfl rfl rfl (.pickF rfl rfl) ?_
    refine RunT.ot0 (x := .v (.bool false)) rfl rfl rfl rfl (.assignX rfl) ?_
    refine RunT.nil ?_
    obtain rfl := si H
    refine T.sub (sub_to (st' := ⟨[(2, .v (.bool false))], [], 8, []⟩) [] (by decide) rfl rfl (⟨⟨_, rfl, .one .v⟩, trivial⟩) (trivial)) ?_
    refine T.ret ?_
    exact RetOk.same [.v (.bool false)] ⟨rfl, trivial⟩ rfl rfl rfl
set_option maxHeartbeats 4000000 in
theorem ref6_Hall_kind_pc (al : Bool) (k : Nat) (a0 : Ref6Hall) (a1 : Int) (a2 : Int) (a3 : Int) (o : Int) (H : ref6_Hall_kind k a0 a1 a2 a3 = some o) : PC Try.prog al 139 [.rptr [.lst (List.map eSeat a0.V.Seats), .v (.int .i64 a0.V.Gap), .v (.int .i64 a0.V.Radius), .lst (List.map eI a0.V.Kills), .lst (List.map ePole a0.V.Poles), .lst (List.map eB a0.U)], .v (.int .i64 a1), .v (.int .i64 a2), .v (.int .i64 a3)] (.v (.int .i64 o)) := by
  unfold ref6_Hall_kind at H
  refine PC.of_T Try.func139 rfl rfl (n := 26) rfl rfl (.inr rfl) ?_
  intro base B w0
  refine T.st (st' := ⟨[(0, .rptr [.lst (List.map eSeat a0.V.Seats), .v (.int .i64 a0.V.Gap), .v (.int .i64 a0.V.Radius), .lst (List.map eI a0.V.Kills), .lst (List.map ePole a0.V.Poles), .lst (List.map eB a0.U)]), (1, .v (.int .i64 a1)), (2, .v (.int .i64 a2)), (3, .v (.int .i64 a3))], [], 0, []⟩) rfl ?_
  refine T.seq ?_
  refine T.region ?_
  refine RunT.ot0 (x := .v (.int .i64 0)) rfl rfl rfl rfl (.assignX rfl) ?_
  refine RunT.nil ?_
  refine T.seq ?_
  refine T.seq ?_
  refine T.region ?_
  refine RunT.ot0 (x := .v (.int .i64 a1)) rfl rfl rfl rfl (.moveX rfl) ?_
  refine RunT.ot0 (x := .v (.int .i64 a2)) rfl rfl rfl rfl (.moveX rfl) ?_
  refine RunT.ot0 (x := .v (.bool (decide (a1 < a2)))) rfl rfl rfl rfl (.bin rfl rfl (fun w => b_lss w) rfl) ?_
  refine RunT.ot0 (x := .v (.bool (decide (a1 < a2)))) rfl rfl rfl rfl (.moveX rfl) ?_
  refine RunT.cases (t := 12) (c := decide (a1 < a2)) rfl (fun g1 => ?_) (fun g1 => ?_)
  · replace H := ct H g1
    refine RunT.xn rfl rfl rfl (bo g1) rfl rfl ?_
    refine RunT.xn rfl rfl rfl (bo g1) rfl rfl ?_
    refine RunT.xn rfl rfl rfl (bo g1) rfl rfl ?_
    refine RunT.ot0 (x := .v (.bool true)) rfl rfl rfl rfl (.pickT (bo g1) rfl) ?_
    refine RunT.nil ?_
    refine T.condT rfl ?_
    refine T.seq ?_
    refine T.region ?_
    refine RunT.ot0 (x := .v (.int .i64 (-1))) rfl rfl rfl rfl (.assignX rfl) ?_
    refine RunT.nil ?_
    obtain rfl := si H
    refine T.sub (sub_to (st' := ⟨[(8, .v (.int .i64 (-1)))], [], 8, []⟩) [] (by decide) rfl rfl (⟨⟨_, rfl, .one .v⟩, trivial⟩) (trivial)) ?_
    refine T.ret ?_
    exact RetOk.same [.v (.int .i64 (-1))] ⟨rfl, trivial⟩ rfl rfl rfl
  · replace H := cf H g1
    refine RunT.gt0 (x := .v (.int .i64 a1)) rfl rfl rfl (bo g1) rfl rfl (.moveX rfl) ?_
    refine RunT.gt0 (x := .v (.int .i64 a3)) rfl rfl rfl (bo g1) rfl rfl (.moveX rfl) ?_
    refine RunT.gt0 (x := .v (.bool (decide (a3 < a1)))) rfl rfl rfl (bo g1) rfl rfl (.bin rfl rfl (fun w => b_gtr w) rfl) ?_
    refine RunT.ot0 (x := .v (.bool (decide (a3 < a1)))) rfl rfl rfl rfl (.pickF (bo g1) rfl) ?_
    refine RunT.nil ?_
    refine T.cond2 (t := decide (a3 < a1)) rfl (fun c2 => ?_) (fun c2 => ?_)
    · replace H := ct H c2
      refine T.seq ?_
      refine T.region ?_
      refine RunT.ot0 (x := .v (.int .i64 (-1))) rfl rfl rfl rfl (.assignX rfl) ?_
      refine RunT.nil ?_
      obtain rfl := si H
      refine T.sub (sub_to (st' := ⟨[(8, .v (.int .i64 (-1)))], [], 8, []⟩) [] (by decide) rfl rfl (⟨⟨_, rfl, .one .v⟩, trivial⟩) (trivial)) ?_
      refine T.ret ?_
      exact RetOk.same [.v (.int .i64 (-1))] ⟨rfl, trivial⟩ rfl rfl rfl
    · replace H := cf H c2
      refine T.skip ?_
      refine T.seq ?_
      refine T.region ?_
      refine RunT.ot0 (x := .rptr [.lst (List.map eSeat a0.V.Seats), .v (.int .i64 a0.V.Gap), .v (.int .i64 a0.V.Radius), .lst (List.map eI a0.V.Kills), .lst (List.map ePole a0.V.Poles), .lst (List.map eB a0.U)]) rfl rfl rfl rfl (.moveX rfl) ?_
      refine RunT.ot0 (x := .rptr [.lst (List.map eSeat a0.V.Seats), .v (.int .i64 a0.V.Gap), .v (.int .i64 a0.V.Radius), .lst (List.map eI a0.V.Kills), .lst (List.map ePole a0.V.Poles), .lst (List.map eB a0.U)]) rfl rfl rfl rfl (.nilR rfl) ?_
      refine RunT.ot0 (x := .rptr [.lst (List.map eSeat a0.V.Seats), .v (.int .i64 a0.V.Gap), .v (.int .i64 a0.V.Radius), .lst (List.map eI a0.V.Kills), .lst (List.map ePole a0.V.Poles), .lst (List.map eB a0.U)]) rfl rfl rfl rfl (.fieldRX fl148_0 rfl rfl) ?_
      refine RunT.ot0 (x := .rptr [.lst (List.map eSeat a0.V.Seats), .v (.int .i64 a0.V.Gap), .v (.int .i64 a0.V.Radius), .lst (List.map eI a0.V.Kills), .lst (List.map ePole a0.V.Poles), .lst (List.map eB a0.U)]) rfl rfl rfl rfl (.fieldRX fl26_0 rfl rfl) ?_
      refine RunT.ot0 (x := .lst (List.map eSeat a0.V.Seats)) rfl rfl rfl rfl (.loadR ty22 rfl rfl) ?_
      refine RunT.ot0 (x := .v (.int .i64 a1)) rfl rfl rfl rfl (.moveX rfl) ?_
      obtain ⟨y3, h4, H⟩ := bs H
      refine RunT.ot0 (x := .rptr [.v (.int .i64 y3.Row), .v (.int .i64 y3.X), .v (.int .i64 y3.Y), .v (.int .i64 y3.Kind)]) rfl rfl rfl rfl (.idxLX h4 enc_Seat sl22 rfl rfl rfl) ?_
      refine RunT.ot0 (x := .rptr [.v (.int .i64 y3.Kind)]) rfl rfl rfl rfl (.fieldRX fl28_3 rfl rfl) ?_
      refine RunT.ot0 (x := .v (.int .i64 y3.Kind)) rfl rfl rfl rfl (.loadR ty3 rfl rfl) ?_
      refine RunT.ot0 (x := .v (.int .i64 y3.Kind)) rfl rfl rfl rfl (.assignX rfl) ?_
      refine RunT.nil ?_
      obtain rfl := si H
      refine T.sub (sub_to (st' := ⟨[(8, .v (.int .i64 y3.Kind))], [], 8, []⟩) [] (by decide) rfl rfl (⟨⟨_, rfl, .one .v⟩, trivial⟩) (trivial)) ?_
      refine T.ret ?_
      exact RetOk.same [.v (.int .i64 y3.Kind)] ⟨rfl, trivial⟩ rfl rfl rfl
end Go.Proofs.Ytlfpkjlaajfjnaa
