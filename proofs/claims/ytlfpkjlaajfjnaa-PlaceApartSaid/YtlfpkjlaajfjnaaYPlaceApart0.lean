/- The Go functions come to just what their plain forms come to: one contract each. -/
import Derived.Test.YtlfpkjlaajfjnaaE
set_option linter.unusedVariables false
set_option linter.unusedSimpArgs false
set_option maxRecDepth 100000
namespace Go.Proofs.Ytlfpkjlaajfjnaa
open Go Go.Sh Go.Px
attribute [local irreducible] Go.Sh.T Go.Sh.RunT Go.Sh.RunD
set_option maxHeartbeats 4000000 in
theorem ref2_in_pc (al : Bool) (k : Nat) (a0 : Int) (a1 : Int) (a2 : Int) (o : Bool) (H : ref2_in k a0 a1 a2 = some o) : PC Try.prog al 133 [.v (.int .i64 a0), .v (.int .i64 a1), .v (.int .i64 a2)] (.v (.bool o)) := by
  unfold ref2_in at H
  refine PC.of_T Try.func133 rfl rfl (n := 15) rfl rfl (.inr rfl) ?_
  intro base B w0
  refine T.st (st' := ⟨[(0, .v (.int .i64 a0)), (1, .v (.int .i64 a1)), (2, .v (.int .i64 a2))], [], 0, []⟩) rfl ?_
  refine T.seq ?_
  refine T.region ?_
  refine RunT.ot0 (x := .v (.bool false)) rfl rfl rfl rfl (.assignX rfl) ?_
  refine RunT.nil ?_
  refine T.seq ?_
  refine T.region ?_
  refine RunT.ot0 (x := .v (.int .i64 a0)) rfl rfl rfl rfl (.moveX rfl) ?_
  refine RunT.ot0 (x := .v (.int .i64 a1)) rfl rfl rfl rfl (.moveX rfl) ?_
  refine RunT.ot0 (x := .v (.bool (decide (a1 ≤ a0)))) rfl rfl rfl rfl (.bin rfl rfl (fun w => b_geq w) rfl) ?_
  refine RunT.ot0 (x := .v (.bool (decide (a1 ≤ a0)))) rfl rfl rfl rfl (.moveX rfl) ?_
  refine RunT.cases (t := 10) (c := decide (a1 ≤ a0)) rfl (fun g1 => ?_) (fun g1 => ?_)
  · replace H := ct H g1
    refine RunT.gt0 (x := .v (.int .i64 a0)) rfl rfl rfl (bo g1) rfl rfl (.moveX rfl) ?_
    refine RunT.gt0 (x := .v (.int .i64 a2)) rfl rfl rfl (bo g1) rfl rfl (.moveX rfl) ?_
    refine RunT.gt0 (x := .v (.bool (decide (a0 ≤ a2)))) rfl rfl rfl (bo g1) rfl rfl (.bin rfl rfl (fun w => b_leq w) rfl) ?_
    refine RunT.ot0 (x := .v (.bool (decide (a0 ≤ a2)))) rfl rfl rfl rfl (.pickT (bo g1) rfl) ?_
    refine RunT.ot0 (x := .v (.bool (decide (a0 ≤ a2)))) rfl rfl rfl rfl (.assignX rfl) ?_
    refine RunT.nil ?_
    obtain rfl := si H
    refine T.sub (sub_to (st' := ⟨[(6, .v (.bool (decide (a0 ≤ a2))))], [], 8, []⟩) [] (by decide) rfl rfl (⟨⟨_, rfl, .one .v⟩, trivial⟩) (trivial)) ?_
    refine T.ret ?_
    exact RetOk.same [.v (.bool (decide (a0 ≤ a2)))] ⟨rfl, trivial⟩ rfl rfl rfl
  · replace H := cf H g1
    refine RunT.xn rfl rfl rfl (bo g1) rfl rfl ?_
    refine RunT.xn rfl rfl rfl (bo g1) rfl rfl ?_
    refine RunT.xn rfl rfl rfl (bo g1) rfl rfl ?_
    refine RunT.ot0 (x := .v (.bool false)) rfl rfl rfl rfl (.pickF (bo g1) rfl) ?_
    refine RunT.ot0 (x := .v (.bool false)) rfl rfl rfl rfl (.assignX rfl) ?_
    refine RunT.nil ?_
    obtain rfl := si H
    refine T.sub (sub_to (st' := ⟨[(6, .v (.bool false))], [], 8, []⟩) [] (by decide) rfl rfl (⟨⟨_, rfl, .one .v⟩, trivial⟩) (trivial)) ?_
    refine T.ret ?_
    exact RetOk.same [.v (.bool false)] ⟨rfl, trivial⟩ rfl rfl rfl
set_option maxHeartbeats 4000000 in
theorem ref2_coord_pc (al : Bool) (k : Nat) (a0 : Int) (o : Bool) (H : ref2_coord k a0 = some o) : PC Try.prog al 155 [.v (.int .i64 a0)] (.v (.bool o)) := by
  unfold ref2_coord at H
  refine PC.of_T Try.func155 rfl rfl (n := 5) rfl rfl (.inr rfl) ?_
  intro base B w0
  refine T.st (st' := ⟨[(0, .v (.int .i64 a0))], [], 0, []⟩) rfl ?_
  refine T.seq ?_
  refine T.region ?_
  refine RunT.ot0 (x := .v (.bool false)) rfl rfl rfl rfl (.assignX rfl) ?_
  refine RunT.nil ?_
  refine T.seq ?_
  refine T.region ?_
  refine RunT.ot0 (x := .v (.int .i64 a0)) rfl rfl rfl rfl (.moveX rfl) ?_
  obtain ⟨r1, h2, H⟩ := bs H
  refine RunT.ot0 (x := .v (.bool r1)) rfl rfl rfl rfl (.callp (ref2_in_pc false k a0 (-1048576) 1048576 r1 h2) rfl ⟨(.one .v), (.one .v), (.one .v), trivial⟩ rfl rfl rfl) ?_
  refine RunT.ot0 (x := .v (.bool r1)) rfl rfl rfl rfl (.assignX rfl) ?_
  refine RunT.nil ?_
  obtain rfl := si H
  refine T.sub (sub_to (st' := ⟨[(2, .v (.bool r1))], [], 8, []⟩) [] (by decide) rfl rfl (⟨⟨_, rfl, .one .v⟩, trivial⟩) (trivial)) ?_
  refine T.ret ?_
  exact RetOk.same [.v (.bool r1)] ⟨rfl, trivial⟩ rfl rfl rfl
set_option maxHeartbeats 4000000 in
theorem ref2_Less_pc (al : Bool) (k : Nat) (a0 : Seat) (a1 : Seat) (o : Bool) (H : ref2_Less k a0 a1 = some o) : PC Try.prog al 156 [.agg [.v (.int .i64 a0.Row), .v (.int .i64 a0.X), .v (.int .i64 a0.Y), .v (.int .i64 a0.Kind)], .agg [.v (.int .i64 a1.Row), .v (.int .i64 a1.X), .v (.int .i64 a1.Y), .v (.int .i64 a1.Kind)]] (.v (.bool o)) := by
  unfold ref2_Less at H
  refine PC.of_T Try.func156 rfl rfl (n := 24) rfl rfl (.inr rfl) ?_
  intro base B w0
  refine T.st (st' := ⟨[(0, .agg [.v (.int .i64 a0.Row), .v (.int .i64 a0.X), .v (.int .i64 a0.Y), .v (.int .i64 a0.Kind)]), (1, .agg [.v (.int .i64 a1.Row), .v (.int .i64 a1.X), .v (.int .i64 a1.Y), .v (.int .i64 a1.Kind)])], [], 0, []⟩) rfl ?_
  refine T.seq ?_
  refine T.region ?_
  refine RunT.ot1 (x := .ptr 0 0) (p0 := (0, some (.box [.v (.int .i64 a0.Row), .v (.int .i64 a0.X), .v (.int .i64 a0.Y), .v (.int .i64 a0.Kind)]))) (n' := 8) rfl rfl rfl rfl (.boxX rfl rfl rfl) rfl ?_
  refine RunT.ot1 (x := .ptr 8 0) (p0 := (8, some (.box [.v (.int .i64 a1.Row), .v (.int .i64 a1.X), .v (.int .i64 a1.Y), .v (.int .i64 a1.Kind)]))) (n' := 16) rfl rfl rfl rfl (.boxX rfl rfl rfl) rfl ?_
  refine RunT.ot0 (x := .v (.bool false)) rfl rfl rfl rfl (.assignX rfl) ?_
  refine RunT.nil ?_
  refine T.seq ?_
  refine T.region ?_
  refine RunT.ot0 (x := .ptr 0 0) rfl rfl rfl rfl (.fieldPX fl28_0 rfl rfl) ?_
  refine RunT.ot0 (x := .v (.int .i64 a0.Row)) rfl rfl rfl rfl (.loadP ty3 rfl rfl rfl) ?_
  refine RunT.ot0 (x := .ptr 8 0) rfl rfl rfl rfl (.fieldPX fl28_0 rfl rfl) ?_
  refine RunT.ot0 (x := .v (.int .i64 a1.Row)) rfl rfl rfl rfl (.loadP ty3 rfl rfl rfl) ?_
  refine RunT.ot0 (x := .v (.bool (decide (a0.Row < a1.Row)))) rfl rfl rfl rfl (.bin rfl rfl (fun w => b_lss w) rfl) ?_
  refine RunT.ot0 (x := .v (.bool (decide (a0.Row < a1.Row)))) rfl rfl rfl rfl (.moveX rfl) ?_
  refine RunT.cases (t := 10) (c := decide (a0.Row < a1.Row)) rfl (fun g1 => ?_) (fun g1 => ?_)
  · replace H := ct H g1
    refine RunT.xn rfl rfl rfl (bo g1) rfl rfl ?_
    refine RunT.xn rfl rfl rfl (bo g1) rfl rfl ?_
    refine RunT.xn rfl rfl rfl (bo g1) rfl rfl ?_
    refine RunT.xn rfl rfl rfl (bo g1) rfl rfl ?_
    refine RunT.xn rfl rfl rfl (bo g1) rfl rfl ?_
    refine RunT.xn rfl rfl rfl (bo g1) rfl rfl ?_
    refine RunT.xu rfl rfl rfl rfl rfl rfl ?_
    refine RunT.xu rfl rfl rfl rfl rfl rfl ?_
    refine RunT.xu rfl rfl rfl rfl rfl rfl ?_
    refine RunT.xu rfl rfl rfl rfl rfl rfl ?_
    refine RunT.xu rfl rfl rfl rfl rfl rfl ?_
    refine RunT.xn rfl rfl rfl (bo g1) rfl rfl ?_
    refine RunT.ot0 (x := .v (.bool true)) rfl rfl rfl rfl (.pickT (bo g1) rfl) ?_
    refine RunT.ot0 (x := .v (.bool true)) rfl rfl rfl rfl (.assignX rfl) ?_
    refine RunT.nil ?_
    obtain rfl := si H
    refine T.sub (sub_to (st' := ⟨[(4, .v (.bool true))], [], 8, []⟩) [] (by decide) rfl rfl (⟨⟨_, rfl, .one .v⟩, trivial⟩) (trivial)) ?_
    refine T.ret ?_
    exact RetOk.same [.v (.bool true)] ⟨rfl, trivial⟩ rfl rfl rfl
  · replace H := cf H g1
    refine RunT.gt0 (x := .ptr 0 0) rfl rfl rfl (bo g1) rfl rfl (.fieldPX fl28_0 rfl rfl) ?_
    refine RunT.gt0 (x := .v (.int .i64 a0.Row)) rfl rfl rfl (bo g1) rfl rfl (.loadP ty3 rfl rfl rfl) ?_
    refine RunT.gt0 (x := .ptr 8 0) rfl rfl rfl (bo g1) rfl rfl (.fieldPX fl28_0 rfl rfl) ?_
    refine RunT.gt0 (x := .v (.int .i64 a1.Row)) rfl rfl rfl (bo g1) rfl rfl (.loadP ty3 rfl rfl rfl) ?_
    refine RunT.gt0 (x := .v (.bool (decide (a0.Row = a1.Row)))) rfl rfl rfl (bo g1) rfl rfl (.bin rfl rfl (fun w => b_eql w) rfl) ?_
    refine RunT.gt0 (x := .v (.bool (decide (a0.Row = a1.Row)))) rfl rfl rfl (bo g1) rfl rfl (.moveX rfl) ?_
    refine RunT.cases (t := 16) (c := decide (a0.Row = a1.Row)) rfl (fun g2 => ?_) (fun g2 => ?_)
    · replace H := ct H g2
      refine RunT.gt0 (x := .ptr 0 1) rfl rfl rfl (bo g2) rfl rfl (.fieldPX fl28_1 rfl rfl) ?_
      refine RunT.gt0 (x := .v (.int .i64 a0.X)) rfl rfl rfl (bo g2) rfl rfl (.loadP ty3 rfl rfl rfl) ?_
      refine RunT.gt0 (x := .ptr 8 1) rfl rfl rfl (bo g2) rfl rfl (.fieldPX fl28_1 rfl rfl) ?_
      refine RunT.gt0 (x := .v (.int .i64 a1.X)) rfl rfl rfl (bo g2) rfl rfl (.loadP ty3 rfl rfl rfl) ?_
      refine RunT.gt0 (x := .v (.bool (decide (a0.X < a1.X)))) rfl rfl rfl (bo g2) rfl rfl (.bin rfl rfl (fun w => b_lss w) rfl) ?_
      refine RunT.gt0 (x := .v (.bool (decide (a0.X < a1.X)))) rfl rfl rfl (bo g1) rfl rfl (.pickT (bo g2) rfl) ?_
      refine RunT.ot0 (x := .v (.bool (decide (a0.X < a1.X)))) rfl rfl rfl rfl (.pickF (bo g1) rfl) ?_
      refine RunT.ot0 (x := .v (.bool (decide (a0.X < a1.X)))) rfl rfl rfl rfl (.assignX rfl) ?_
      refine RunT.nil ?_
      obtain rfl := si H
      refine T.sub (sub_to (st' := ⟨[(4, .v (.bool (decide (a0.X < a1.X))))], [], 8, []⟩) [] (by decide) rfl rfl (⟨⟨_, rfl, .one .v⟩, trivial⟩) (trivial)) ?_
      refine T.ret ?_
      exact RetOk.same [.v (.bool (decide (a0.X < a1.X)))] ⟨rfl, trivial⟩ rfl rfl rfl
    · replace H := cf H g2
      refine RunT.xn rfl rfl rfl (bo g2) rfl rfl ?_
      refine RunT.xn rfl rfl rfl (bo g2) rfl rfl ?_
      refine RunT.xn rfl rfl rfl (bo g2) rfl rfl ?_
      refine RunT.xn rfl rfl rfl (bo g2) rfl rfl ?_
      refine RunT.xn rfl rfl rfl (bo g2) rfl rfl ?_
      refine RunT.gt0 (x := .v (.bool false)) rfl rfl rfl (bo g1) rfl rfl (.pickF (bo g2) rfl) ?_
      refine RunT.ot0 (x := .v (.bool false)) rfl rfl rfl rfl (.pickF (bo g1) rfl) ?_
      refine RunT.ot0 (x := .v (.bool false)) rfl rfl rfl rfl (.assignX rfl) ?_
      refine RunT.nil ?_
      obtain rfl := si H
      refine T.sub (sub_to (st' := ⟨[(4, .v (.bool false))], [], 8, []⟩) [] (by decide) rfl rfl (⟨⟨_, rfl, .one .v⟩, trivial⟩) (trivial)) ?_
      refine T.ret ?_
      exact RetOk.same [.v (.bool false)] ⟨rfl, trivial⟩ rfl rfl rfl
set_option maxHeartbeats 4000000 in
theorem ref2_seats_pc (al : Bool) (k : Nat) (a0 : (List Seat)) (o : Bool) (H : ref2_seats k a0 = some o) : PC Try.prog al 132 [.lst (List.map eSeat a0)] (.v (.bool o)) := by
  unfold ref2_seats at H
  refine PC.of_T Try.func132 rfl rfl (n := 59) rfl rfl (.inr rfl) ?_
  intro base B w0
  refine T.st (st' := ⟨[(0, .lst (List.map eSeat a0))], [], 0, []⟩) rfl ?_
  refine T.seq ?_
  refine T.region ?_
  refine RunT.ot0 (x := .v (.bool false)) rfl rfl rfl rfl (.assignX rfl) ?_
  refine RunT.nil ?_
  refine T.seq ?_
  refine T.seq ?_
  refine T.region ?_
  refine RunT.ot0 (x := .v (.int .i64 0)) rfl rfl rfl rfl (.assignX rfl) ?_
  refine RunT.nil ?_
  obtain ⟨o44, E45, HO46⟩ := bs H
  refine T.cutPE (fun v47 => o44 = .go v47) (fun v47 => ⟨[(0, .lst (List.map eSeat a0))], [], 8, []⟩) ?_ ?_
  · have H := E45
    refine T.block ?_
    refine T.loopS (fun n s => ∃ (v48 : Int), ref2_seats_l0 k a0 n v48 = some o44 ∧ s = ⟨[(0, .lst (List.map eSeat a0)), (3, .v (.int .i64 v48))], [], 8, []⟩) k ⟨_, ⟨0, H, rfl⟩, sub_to [] (by decide) rfl rfl (⟨⟨_, rfl, .one .lst⟩, ⟨⟨_, rfl, .one .v⟩, trivial⟩⟩) (trivial)⟩ ?_
    rintro n s ⟨v48, H, rfl⟩
    rcases n with _ | n
    · cases (show none = some _ from H)
    rw [ref2_seats_l0] at H
    refine T.seq ?_
    refine T.seq ?_
    refine T.region ?_
    refine RunT.ot0 (x := .v (.int .i64 v48)) rfl rfl rfl rfl (.moveX rfl) ?_
    refine RunT.ot0 (x := .lst (List.map eSeat a0)) rfl rfl rfl rfl (.moveX rfl) ?_
    refine RunT.ot0 (x := .v (.int .i64 (a0.length : Int))) rfl rfl rfl rfl (.lenLm Try.underlying22 rfl rfl) ?_
    refine RunT.ot0 (x := .v (.bool (decide (v48 < (a0.length : Int))))) rfl rfl rfl rfl (.bin rfl rfl (fun w => b_lss w) rfl) ?_
    refine RunT.nil ?_
    refine T.cond2 (t := decide (v48 < (a0.length : Int))) rfl (fun c49 => ?_) (fun c49 => ?_)
    · replace H := ct H c49
      refine T.skip ?_
      refine T.seq ?_
      refine T.block ?_
      refine T.seq ?_
      refine T.region ?_
      refine RunT.ot0 (x := .lst (List.map eSeat a0)) rfl rfl rfl rfl (.moveX rfl) ?_
      refine RunT.ot0 (x := .v (.int .i64 v48)) rfl rfl rfl rfl (.moveX rfl) ?_
      obtain ⟨y50, h51, H⟩ := bs H
      refine RunT.ot0 (x := .rptr [.v (.int .i64 y50.Row), .v (.int .i64 y50.X), .v (.int .i64 y50.Y), .v (.int .i64 y50.Kind)]) rfl rfl rfl rfl (.idxLX h51 enc_Seat sl22 rfl rfl rfl) ?_
      refine RunT.ot0 (x := .agg [.v (.int .i64 y50.Row), .v (.int .i64 y50.X), .v (.int .i64 y50.Y), .v (.int .i64 y50.Kind)]) rfl rfl rfl rfl (.loadR ty28 rfl rfl) ?_
      refine RunT.ot1 (x := .ptr 8 0) (p0 := (8, some (.box [.v (.int .i64 0), .v (.int .i64 0), .v (.int .i64 0), .v (.int .i64 0)]))) (n' := 16) rfl rfl rfl rfl (.allocX in28.zero rfl rfl) rfl ?_
      refine RunT.on1 (x := .junk) (p0 := (8, some (.box [.v (.int .i64 y50.Row), .v (.int .i64 y50.X), .v (.int .i64 y50.Y), .v (.int .i64 y50.Kind)]))) (n' := 24) rfl rfl rfl (.storePX ty28 rfl rfl rfl rfl rfl rfl rfl) rfl ?_
      refine RunT.nil ?_
      refine T.seq ?_
      refine T.draw (wr := []) mixed rfl rfl ?_ rfl
      refine RunD.ot0 (x := .ptr 8 0) rfl rfl rfl rfl (.fieldPX fl28_0 rfl rfl) rfl ?_
      refine RunD.ot0 (x := .v (.int .i64 y50.Row)) rfl rfl rfl rfl (.loadP ty3 rfl rfl rfl) rfl ?_
      obtain ⟨r69, h70, H⟩ := bs H
      refine RunD.ot0 (x := .v (.bool r69)) rfl rfl rfl rfl (.callp (ref2_in_pc false k y50.Row 0 999 r69 h70) rfl ⟨(.one .v), (.one .v), (.one .v), trivial⟩ rfl rfl rfl) rfl ?_
      refine RunD.ot0 (x := .v (.bool (!r69))) rfl rfl rfl rfl (.un rfl (fun w => u_not w) rfl) rfl ?_
      refine RunD.ot0 (x := .v (.bool (!r69))) rfl rfl rfl rfl (.moveX rfl) rfl ?_
      refine RunD.cases (t := 19) (c := !r69) rfl (fun g71 => ?_) (fun g71 => ?_)
      · replace H := ct H g71
        refine RunD.xn rfl rfl rfl (bo g71) rfl rfl ?_
        refine RunD.xn rfl rfl rfl (bo g71) rfl rfl ?_
        refine RunD.xn rfl rfl rfl (bo g71) rfl rfl ?_
        refine RunD.xn rfl rfl rfl (bo g71) rfl rfl ?_
        refine RunD.ot0 (x := .v (.bool true)) rfl rfl rfl rfl (.pickT (bo g71) rfl) rfl ?_
        refine RunD.ot0 (x := .v (.bool true)) rfl rfl rfl rfl (.moveX rfl) rfl ?_
        refine RunD.xn rfl rfl rfl rfl rfl rfl ?_
        refine RunD.xn rfl rfl rfl rfl rfl rfl ?_
        refine RunD.xn rfl rfl rfl rfl rfl rfl ?_
        refine RunD.xn rfl rfl rfl rfl rfl rfl ?_
        refine RunD.ot0 (x := .v (.bool true)) rfl rfl rfl rfl (.pickT rfl rfl) rfl ?_
        refine RunD.ot0 (x := .v (.bool true)) rfl rfl rfl rfl (.moveX rfl) rfl ?_
        refine RunD.xn rfl rfl rfl rfl rfl rfl ?_
        refine RunD.xn rfl rfl rfl rfl rfl rfl ?_
        refine RunD.xn rfl rfl rfl rfl rfl rfl ?_
        refine RunD.xn rfl rfl rfl rfl rfl rfl ?_
        refine RunD.ot0 (x := .v (.bool true)) rfl rfl rfl rfl (.pickT rfl rfl) rfl ?_
        refine RunD.ot0 (x := .v (.bool true)) rfl rfl rfl rfl (.moveX rfl) rfl ?_
        refine RunD.xn rfl rfl rfl rfl rfl rfl ?_
        refine RunD.xn rfl rfl rfl rfl rfl rfl ?_
        refine RunD.xn rfl rfl rfl rfl rfl rfl ?_
        refine RunD.xu rfl rfl rfl rfl rfl rfl ?_
        refine RunD.xu rfl rfl rfl rfl rfl rfl ?_
        refine RunD.xu rfl rfl rfl rfl rfl rfl ?_
        refine RunD.xu rfl rfl rfl rfl rfl rfl ?_
        refine RunD.xu rfl rfl rfl rfl rfl rfl ?_
        refine RunD.xu rfl rfl rfl rfl rfl rfl ?_
        refine RunD.xu rfl rfl rfl rfl rfl rfl ?_
        refine RunD.xu rfl rfl rfl rfl rfl rfl ?_
        refine RunD.xn rfl rfl rfl rfl rfl rfl ?_
        refine RunD.ot0 (x := .v (.bool true)) rfl rfl rfl rfl (.pickT rfl rfl) rfl ?_
        refine RunD.nil (by kernel_rfl) ⟨rfl, rfl, ?_⟩
        refine T.condT rfl ?_
        refine T.seq ?_
        refine T.sub (sub_pick [] [] (st' := ⟨[], [], 312, []⟩) rfl rfl rfl rfl rfl) ?_
        refine T.region ?_
        refine RunT.ot0 (x := .v (.bool false)) rfl rfl rfl rfl (.assignX rfl) ?_
        refine RunT.nil ?_
        obtain rfl := si H
        have HX := exr HO46
        obtain rfl := si HX
        refine T.sub (sub_to (st' := ⟨[(2, .v (.bool false))], [], 8, []⟩) [] (by decide) rfl rfl (⟨⟨_, rfl, .one .v⟩, trivial⟩) (trivial)) ?_
        refine T.ret ?_
        exact RetOk.same [.v (.bool false)] ⟨rfl, trivial⟩ rfl rfl rfl
      · replace H := cf H g71
        refine RunD.gt0 (x := .ptr 8 1) rfl rfl rfl (bo g71) rfl rfl (.fieldPX fl28_1 rfl rfl) rfl ?_
        refine RunD.gt0 (x := .v (.int .i64 y50.X)) rfl rfl rfl (bo g71) rfl rfl (.loadP ty3 rfl rfl rfl) rfl ?_
        obtain ⟨r72, h73, H⟩ := bs H
        refine RunD.gt0 (x := .v (.bool r72)) rfl rfl rfl (bo g71) rfl rfl (.callp (ref2_coord_pc false k y50.X r72 h73) rfl ⟨(.one .v), trivial⟩ rfl rfl rfl) rfl ?_
        refine RunD.gt0 (x := .v (.bool (!r72))) rfl rfl rfl (bo g71) rfl rfl (.un rfl (fun w => u_not w) rfl) rfl ?_
        refine RunD.ot0 (x := .v (.bool (!r72))) rfl rfl rfl rfl (.pickF (bo g71) rfl) rfl ?_
        refine RunD.ot0 (x := .v (.bool (!r72))) rfl rfl rfl rfl (.moveX rfl) rfl ?_
        refine RunD.cases (t := 25) (c := !r72) rfl (fun g74 => ?_) (fun g74 => ?_)
        · replace H := ct H g74
          refine RunD.xn rfl rfl rfl (bo g74) rfl rfl ?_
          refine RunD.xn rfl rfl rfl (bo g74) rfl rfl ?_
          refine RunD.xn rfl rfl rfl (bo g74) rfl rfl ?_
          refine RunD.xn rfl rfl rfl (bo g74) rfl rfl ?_
          refine RunD.ot0 (x := .v (.bool true)) rfl rfl rfl rfl (.pickT (bo g74) rfl) rfl ?_
          refine RunD.ot0 (x := .v (.bool true)) rfl rfl rfl rfl (.moveX rfl) rfl ?_
          refine RunD.xn rfl rfl rfl rfl rfl rfl ?_
          refine RunD.xn rfl rfl rfl rfl rfl rfl ?_
          refine RunD.xn rfl rfl rfl rfl rfl rfl ?_
          refine RunD.xn rfl rfl rfl rfl rfl rfl ?_
          refine RunD.ot0 (x := .v (.bool true)) rfl rfl rfl rfl (.pickT rfl rfl) rfl ?_
          refine RunD.ot0 (x := .v (.bool true)) rfl rfl rfl rfl (.moveX rfl) rfl ?_
          refine RunD.xn rfl rfl rfl rfl rfl rfl ?_
          refine RunD.xn rfl rfl rfl rfl rfl rfl ?_
          refine RunD.xn rfl rfl rfl rfl rfl rfl ?_
          refine RunD.xu rfl rfl rfl rfl rfl rfl ?_
          refine RunD.xu rfl rfl rfl rfl rfl rfl ?_
          refine RunD.xu rfl rfl rfl rfl rfl rfl ?_
          refine RunD.xu rfl rfl rfl rfl rfl rfl ?_
          refine RunD.xu rfl rfl rfl rfl rfl rfl ?_
          refine RunD.xu rfl rfl rfl rfl rfl rfl ?_
          refine RunD.xu rfl rfl rfl rfl rfl rfl ?_
          refine RunD.xu rfl rfl rfl rfl rfl rfl ?_
          refine RunD.xn rfl rfl rfl rfl rfl rfl ?_
          refine RunD.ot0 (x := .v (.bool true)) rfl rfl rfl rfl (.pickT rfl rfl) rfl ?_
          refine RunD.nil (by kernel_rfl) ⟨rfl, rfl, ?_⟩
          refine T.condT rfl ?_
          refine T.seq ?_
          refine T.sub (sub_pick [] [] (st' := ⟨[], [], 312, []⟩) rfl rfl rfl rfl rfl) ?_
          refine T.region ?_
          refine RunT.ot0 (x := .v (.bool false)) rfl rfl rfl rfl (.assignX rfl) ?_
          refine RunT.nil ?_
          obtain rfl := si H
          have HX := exr HO46
          obtain rfl := si HX
          refine T.sub (sub_to (st' := ⟨[(2, .v (.bool false))], [], 8, []⟩) [] (by decide) rfl rfl (⟨⟨_, rfl, .one .v⟩, trivial⟩) (trivial)) ?_
          refine T.ret ?_
          exact RetOk.same [.v (.bool false)] ⟨rfl, trivial⟩ rfl rfl rfl
        · replace H := cf H g74
          refine RunD.gt0 (x := .ptr 8 2) rfl rfl rfl (bo g74) rfl rfl (.fieldPX fl28_2 rfl rfl) rfl ?_
          refine RunD.gt0 (x := .v (.int .i64 y50.Y)) rfl rfl rfl (bo g74) rfl rfl (.loadP ty3 rfl rfl rfl) rfl ?_
          obtain ⟨r75, h76, H⟩ := bs H
          refine RunD.gt0 (x := .v (.bool r75)) rfl rfl rfl (bo g74) rfl rfl (.callp (ref2_coord_pc false k y50.Y r75 h76) rfl ⟨(.one .v), trivial⟩ rfl rfl rfl) rfl ?_
          refine RunD.gt0 (x := .v (.bool (!r75))) rfl rfl rfl (bo g74) rfl rfl (.un rfl (fun w => u_not w) rfl) rfl ?_
          refine RunD.ot0 (x := .v (.bool (!r75))) rfl rfl rfl rfl (.pickF (bo g74) rfl) rfl ?_
          refine RunD.ot0 (x := .v (.bool (!r75))) rfl rfl rfl rfl (.moveX rfl) rfl ?_
          refine RunD.cases (t := 31) (c := !r75) rfl (fun g77 => ?_) (fun g77 => ?_)
          · replace H := ct H g77
            refine RunD.xn rfl rfl rfl (bo g77) rfl rfl ?_
            refine RunD.xn rfl rfl rfl (bo g77) rfl rfl ?_
            refine RunD.xn rfl rfl rfl (bo g77) rfl rfl ?_
            refine RunD.xn rfl rfl rfl (bo g77) rfl rfl ?_
            refine RunD.ot0 (x := .v (.bool true)) rfl rfl rfl rfl (.pickT (bo g77) rfl) rfl ?_
            refine RunD.ot0 (x := .v (.bool true)) rfl rfl rfl rfl (.moveX rfl) rfl ?_
            refine RunD.xn rfl rfl rfl rfl rfl rfl ?_
            refine RunD.xn rfl rfl rfl rfl rfl rfl ?_
            refine RunD.xn rfl rfl rfl rfl rfl rfl ?_
            refine RunD.xu rfl rfl rfl rfl rfl rfl ?_
            refine RunD.xu rfl rfl rfl rfl rfl rfl ?_
            refine RunD.xu rfl rfl rfl rfl rfl rfl ?_
            refine RunD.xu rfl rfl rfl rfl rfl rfl ?_
            refine RunD.xu rfl rfl rfl rfl rfl rfl ?_
            refine RunD.xu rfl rfl rfl rfl rfl rfl ?_
            refine RunD.xu rfl rfl rfl rfl rfl rfl ?_
            refine RunD.xu rfl rfl rfl rfl rfl rfl ?_
            refine RunD.xn rfl rfl rfl rfl rfl rfl ?_
            refine RunD.ot0 (x := .v (.bool true)) rfl rfl rfl rfl (.pickT rfl rfl) rfl ?_
            refine RunD.nil (by kernel_rfl) ⟨rfl, rfl, ?_⟩
            refine T.condT rfl ?_
            refine T.seq ?_
            refine T.sub (sub_pick [] [] (st' := ⟨[], [], 312, []⟩) rfl rfl rfl rfl rfl) ?_
            refine T.region ?_
            refine RunT.ot0 (x := .v (.bool false)) rfl rfl rfl rfl (.assignX rfl) ?_
            refine RunT.nil ?_
            obtain rfl := si H
            have HX := exr HO46
            obtain rfl := si HX
            refine T.sub (sub_to (st' := ⟨[(2, .v (.bool false))], [], 8, []⟩) [] (by decide) rfl rfl (⟨⟨_, rfl, .one .v⟩, trivial⟩) (trivial)) ?_
            refine T.ret ?_
            exact RetOk.same [.v (.bool false)] ⟨rfl, trivial⟩ rfl rfl rfl
          · replace H := cf H g77
            refine RunD.gt0 (x := .ptr 8 3) rfl rfl rfl (bo g77) rfl rfl (.fieldPX fl28_3 rfl rfl) rfl ?_
            refine RunD.gt0 (x := .v (.int .i64 y50.Kind)) rfl rfl rfl (bo g77) rfl rfl (.loadP ty3 rfl rfl rfl) rfl ?_
            obtain ⟨r78, h79, H⟩ := bs H
            refine RunD.gt0 (x := .v (.bool r78)) rfl rfl rfl (bo g77) rfl rfl (.callp (ref2_in_pc false k y50.Kind 0 2 r78 h79) rfl ⟨(.one .v), (.one .v), (.one .v), trivial⟩ rfl rfl rfl) rfl ?_
            refine RunD.gt0 (x := .v (.bool (!r78))) rfl rfl rfl (bo g77) rfl rfl (.un rfl (fun w => u_not w) rfl) rfl ?_
            refine RunD.ot0 (x := .v (.bool (!r78))) rfl rfl rfl rfl (.pickF (bo g77) rfl) rfl ?_
            refine RunD.ot0 (x := .v (.bool (!r78))) rfl rfl rfl rfl (.moveX rfl) rfl ?_
            refine RunD.cases (t := 37) (c := !r78) rfl (fun g80 => ?_) (fun g80 => ?_)
            · replace H := ct H g80
              refine RunD.xn rfl rfl rfl (bo g80) rfl rfl ?_
              refine RunD.xn rfl rfl rfl (bo g80) rfl rfl ?_
              refine RunD.xn rfl rfl rfl (bo g80) rfl rfl ?_
              refine RunD.xu rfl rfl rfl rfl rfl rfl ?_
              refine RunD.xu rfl rfl rfl rfl rfl rfl ?_
              refine RunD.xu rfl rfl rfl rfl rfl rfl ?_
              refine RunD.xu rfl rfl rfl rfl rfl rfl ?_
              refine RunD.xu rfl rfl rfl rfl rfl rfl ?_
              refine RunD.xu rfl rfl rfl rfl rfl rfl ?_
              refine RunD.xu rfl rfl rfl rfl rfl rfl ?_
              refine RunD.xu rfl rfl rfl rfl rfl rfl ?_
              refine RunD.xn rfl rfl rfl (bo g80) rfl rfl ?_
              refine RunD.ot0 (x := .v (.bool true)) rfl rfl rfl rfl (.pickT (bo g80) rfl) rfl ?_
              refine RunD.nil (by kernel_rfl) ⟨rfl, rfl, ?_⟩
              refine T.condT rfl ?_
              refine T.seq ?_
              refine T.sub (sub_pick [] [] (st' := ⟨[], [], 312, []⟩) rfl rfl rfl rfl rfl) ?_
              refine T.region ?_
              refine RunT.ot0 (x := .v (.bool false)) rfl rfl rfl rfl (.assignX rfl) ?_
              refine RunT.nil ?_
              obtain rfl := si H
              have HX := exr HO46
              obtain rfl := si HX
              refine T.sub (sub_to (st' := ⟨[(2, .v (.bool false))], [], 8, []⟩) [] (by decide) rfl rfl (⟨⟨_, rfl, .one .v⟩, trivial⟩) (trivial)) ?_
              refine T.ret ?_
              exact RetOk.same [.v (.bool false)] ⟨rfl, trivial⟩ rfl rfl rfl
            · replace H := cf H g80
              refine RunD.gt0 (x := .v (.int .i64 v48)) rfl rfl rfl (bo g80) rfl rfl (.moveX rfl) rfl ?_
              refine RunD.gt0 (x := .v (.bool (decide (0 < v48)))) rfl rfl rfl (bo g80) rfl rfl (.bin rfl rfl (fun w => b_gtr w) rfl) rfl ?_
              refine RunD.gt0 (x := .v (.bool (decide (0 < v48)))) rfl rfl rfl (bo g80) rfl rfl (.moveX rfl) rfl ?_
              refine RunD.cases (t := 40) (c := decide (0 < v48)) rfl (fun g81 => ?_) (fun g81 => ?_)
              · replace H := ct H g81
                refine RunD.gt0 (x := .lst (List.map eSeat a0)) rfl rfl rfl (bo g81) rfl rfl (.moveX rfl) rfl ?_
                refine RunD.gt0 (x := .v (.int .i64 v48)) rfl rfl rfl (bo g81) rfl rfl (.moveX rfl) rfl ?_
                refine RunD.gt0 (x := .v (.int .i64 (wr (v48 - 1)))) rfl rfl rfl (bo g81) rfl rfl (.bin rfl rfl (fun w => b_subw w) rfl) rfl ?_
                obtain ⟨y82, h83, H⟩ := bs H
                refine RunD.gt0 (x := .rptr [.v (.int .i64 y82.Row), .v (.int .i64 y82.X), .v (.int .i64 y82.Y), .v (.int .i64 y82.Kind)]) rfl rfl rfl (bo g81) rfl rfl (.idxLX h83 enc_Seat sl22 rfl rfl rfl) rfl ?_
                refine RunD.gt0 (x := .agg [.v (.int .i64 y82.Row), .v (.int .i64 y82.X), .v (.int .i64 y82.Y), .v (.int .i64 y82.Kind)]) rfl rfl rfl (bo g81) rfl rfl (.loadR ty28 rfl rfl) rfl ?_
                refine RunD.gt0 (x := .agg [.v (.int .i64 y50.Row), .v (.int .i64 y50.X), .v (.int .i64 y50.Y), .v (.int .i64 y50.Kind)]) rfl rfl rfl (bo g81) rfl rfl (.loadP ty28 rfl rfl rfl) rfl ?_
                obtain ⟨r84, h85, H⟩ := bs H
                refine RunD.gt0 (x := .v (.bool r84)) rfl rfl rfl (bo g81) rfl rfl (.callp (ref2_Less_pc false k y82 y50 r84 h85) rfl ⟨(.agg' ⟨.v, .v, .v, .v, trivial⟩), (.agg' ⟨.v, .v, .v, .v, trivial⟩), trivial⟩ rfl rfl rfl) rfl ?_
                refine RunD.gt0 (x := .v (.bool (!r84))) rfl rfl rfl (bo g81) rfl rfl (.un rfl (fun w => u_not w) rfl) rfl ?_
                refine RunD.gt0 (x := .v (.bool (!r84))) rfl rfl rfl (bo g80) rfl rfl (.pickT (bo g81) rfl) rfl ?_
                refine RunD.ot0 (x := .v (.bool (!r84))) rfl rfl rfl rfl (.pickF (bo g80) rfl) rfl ?_
                refine RunD.nil (by kernel_rfl) ⟨rfl, rfl, ?_⟩
                refine T.cond2 (t := !r84) rfl (fun c86 => ?_) (fun c86 => ?_)
                · replace H := ct H c86
                  refine T.seq ?_
                  refine T.sub (sub_pick [] [] (st' := ⟨[], [], 312, []⟩) rfl rfl rfl rfl rfl) ?_
                  refine T.region ?_
                  refine RunT.ot0 (x := .v (.bool false)) rfl rfl rfl rfl (.assignX rfl) ?_
                  refine RunT.nil ?_
                  obtain rfl := si H
                  have HX := exr HO46
                  obtain rfl := si HX
                  refine T.sub (sub_to (st' := ⟨[(2, .v (.bool false))], [], 8, []⟩) [] (by decide) rfl rfl (⟨⟨_, rfl, .one .v⟩, trivial⟩) (trivial)) ?_
                  refine T.ret ?_
                  exact RetOk.same [.v (.bool false)] ⟨rfl, trivial⟩ rfl rfl rfl
                · replace H := cf H c86
                  refine T.skip ?_
                  refine T.region ?_
                  refine RunT.ot0 (x := .v (.int .i64 v48)) rfl rfl rfl rfl (.moveX rfl) ?_
                  refine RunT.ot0 (x := .v (.int .i64 (wr (v48 + 1)))) rfl rfl rfl rfl (.bin rfl rfl (fun w => b_addw w) rfl) ?_
                  refine RunT.ot0 (x := .v (.int .i64 (wr (v48 + 1)))) rfl rfl rfl rfl (.assignX rfl) ?_
                  refine RunT.nil ?_
                  exact ⟨n, Nat.lt_succ_self n, _, ⟨wr (v48 + 1), H, rfl⟩, (sub_to [] (by decide) rfl rfl (⟨⟨_, rfl, .one .lst⟩, ⟨⟨_, rfl, .one .v⟩, trivial⟩⟩) (trivial))⟩
              · replace H := cf H g81
                refine RunD.xn rfl rfl rfl (bo g81) rfl rfl ?_
                refine RunD.xn rfl rfl rfl (bo g81) rfl rfl ?_
                refine RunD.xn rfl rfl rfl (bo g81) rfl rfl ?_
                refine RunD.xn rfl rfl rfl (bo g81) rfl rfl ?_
                refine RunD.xn rfl rfl rfl (bo g81) rfl rfl ?_
                refine RunD.xn rfl rfl rfl (bo g81) rfl rfl ?_
                refine RunD.xn rfl rfl rfl (bo g81) rfl rfl ?_
                refine RunD.xn rfl rfl rfl (bo g81) rfl rfl ?_
                refine RunD.gt0 (x := .v (.bool false)) rfl rfl rfl (bo g80) rfl rfl (.pickF (bo g81) rfl) rfl ?_
                refine RunD.ot0 (x := .v (.bool false)) rfl rfl rfl rfl (.pickF (bo g80) rfl) rfl ?_
                refine RunD.nil (by kernel_rfl) ⟨rfl, rfl, ?_⟩
                refine T.condF rfl ?_
                refine T.skip ?_
                refine T.sub (sub_pick [0, 3] [] (st' := ⟨[(0, .lst (List.map eSeat a0)), (3, .v (.int .i64 v48))], [], 312, []⟩) rfl rfl rfl rfl rfl) ?_
                refine T.region ?_
                refine RunT.ot0 (x := .v (.int .i64 v48)) rfl rfl rfl rfl (.moveX rfl) ?_
                refine RunT.ot0 (x := .v (.int .i64 (wr (v48 + 1)))) rfl rfl rfl rfl (.bin rfl rfl (fun w => b_addw w) rfl) ?_
                refine RunT.ot0 (x := .v (.int .i64 (wr (v48 + 1)))) rfl rfl rfl rfl (.assignX rfl) ?_
                refine RunT.nil ?_
                exact ⟨n, Nat.lt_succ_self n, _, ⟨wr (v48 + 1), H, rfl⟩, (sub_to [] (by decide) rfl rfl (⟨⟨_, rfl, .one .lst⟩, ⟨⟨_, rfl, .one .v⟩, trivial⟩⟩) (trivial))⟩
    · replace H := cf H c49
      refine T.exit ?_
      obtain rfl := si H
      exact ⟨_, rfl, (sub_to [] (by decide) rfl rfl (⟨⟨_, rfl, .one .lst⟩, trivial⟩) (trivial))⟩
  · intro v47 s hR hS
    subst hR
    have H := exg HO46
    refine T.sub hS ?_
    refine T.seq ?_
    refine T.region ?_
    refine RunT.ot0 (x := .lst (List.map eSeat a0)) rfl rfl rfl rfl (.moveX rfl) ?_
    refine RunT.ot0 (x := .v (.int .i64 (a0.length : Int))) rfl rfl rfl rfl (.lenLm Try.underlying22 rfl rfl) ?_
    refine RunT.ot0 (x := .v (.bool (decide (1 ≤ (a0.length : Int))))) rfl rfl rfl rfl (.bin rfl rfl (fun w => b_geq w) rfl) ?_
    refine RunT.ot0 (x := .v (.bool (decide (1 ≤ (a0.length : Int))))) rfl rfl rfl rfl (.moveX rfl) ?_
    refine RunT.cases (t := 54) (c := decide (1 ≤ (a0.length : Int))) rfl (fun g87 => ?_) (fun g87 => ?_)
    · replace H := ct H g87
      refine RunT.gt0 (x := .lst (List.map eSeat a0)) rfl rfl rfl (bo g87) rfl rfl (.moveX rfl) ?_
      refine RunT.gt0 (x := .v (.int .i64 (a0.length : Int))) rfl rfl rfl (bo g87) rfl rfl (.lenLm Try.underlying22 rfl rfl) ?_
      refine RunT.gt0 (x := .v (.bool (decide ((a0.length : Int) ≤ 4096)))) rfl rfl rfl (bo g87) rfl rfl (.bin rfl rfl (fun w => b_leq w) rfl) ?_
      refine RunT.ot0 (x := .v (.bool (decide ((a0.length : Int) ≤ 4096)))) rfl rfl rfl rfl (.pickT (bo g87) rfl) ?_
      refine RunT.ot0 (x := .v (.bool (decide ((a0.length : Int) ≤ 4096)))) rfl rfl rfl rfl (.assignX rfl) ?_
      refine RunT.nil ?_
      obtain rfl := si H
      refine T.sub (sub_to (st' := ⟨[(2, .v (.bool (decide ((a0.length : Int) ≤ 4096))))], [], 8, []⟩) [] (by decide) rfl rfl (⟨⟨_, rfl, .one .v⟩, trivial⟩) (trivial)) ?_
      refine T.ret ?_
      exact RetOk.same [.v (.bool (decide ((a0.length : Int) ≤ 4096)))] ⟨rfl, trivial⟩ rfl rfl rfl
    · replace H := cf H g87
      refine RunT.xn rfl rfl rfl (bo g87) rfl rfl ?_
      refine RunT.xn rfl rfl rfl (bo g87) rfl rfl ?_
      refine RunT.xn rfl rfl rfl (bo g87) rfl rfl ?_
      refine RunT.ot0 (x := .v (.bool false)) rfl rfl rfl rfl (.pickF (bo g87) rfl) ?_
      refine RunT.ot0 (x := .v (.bool false)) rfl rfl rfl rfl (.assignX rfl) ?_
      refine RunT.nil ?_
      obtain rfl := si H
      refine T.sub (sub_to (st' := ⟨[(2, .v (.bool false))], [], 8, []⟩) [] (by decide) rfl rfl (⟨⟨_, rfl, .one .v⟩, trivial⟩) (trivial)) ?_
      refine T.ret ?_
      exact RetOk.same [.v (.bool false)] ⟨rfl, trivial⟩ rfl rfl rfl
set_option maxHeartbeats 4000000 in
theorem ref2_kills_pc (al : Bool) (k : Nat) (a0 : (List Int)) (a1 : Int) (o : Bool) (H : ref2_kills k a0 a1 = some o) : PC Try.prog al 134 [.lst (List.map eI a0), .v (.int .i64 a1)] (.v (.bool o)) := by
  unfold ref2_kills at H
  refine PC.of_T Try.func134 rfl rfl (n := 39) rfl rfl (.inr rfl) ?_
  intro base B w0
  refine T.st (st' := ⟨[(0, .lst (List.map eI a0)), (1, .v (.int .i64 a1))], [], 0, []⟩) rfl ?_
  refine T.seq ?_
  refine T.region ?_
  refine RunT.ot0 (x := .v (.bool false)) rfl rfl rfl rfl (.assignX rfl) ?_
  refine RunT.nil ?_
  refine T.seq ?_
  refine T.seq ?_
  refine T.region ?_
  refine RunT.ot0 (x := .v (.int .i64 0)) rfl rfl rfl rfl (.assignX rfl) ?_
  refine RunT.nil ?_
  obtain ⟨o26, E27, HO28⟩ := bs H
  refine T.cutPE (fun v29 => o26 = .go v29) (fun v29 => ⟨[(0, .lst (List.map eI a0))], [], 8, []⟩) ?_ ?_
  · have H := E27
    refine T.block ?_
    refine T.loopS (fun n s => ∃ (v30 : Int), ref2_kills_l0 k a0 a1 n v30 = some o26 ∧ s = ⟨[(0, .lst (List.map eI a0)), (1, .v (.int .i64 a1)), (5, .v (.int .i64 v30))], [], 8, []⟩) k ⟨_, ⟨0, H, rfl⟩, sub_to [] (by decide) rfl rfl (⟨⟨_, rfl, .one .lst⟩, ⟨⟨_, rfl, .one .v⟩, ⟨⟨_, rfl, .one .v⟩, trivial⟩⟩⟩) (trivial)⟩ ?_
    rintro n s ⟨v30, H, rfl⟩
    rcases n with _ | n
    · cases (show none = some _ from H)
    rw [ref2_kills_l0] at H
    refine T.seq ?_
    refine T.seq ?_
    refine T.region ?_
    refine RunT.ot0 (x := .v (.int .i64 v30)) rfl rfl rfl rfl (.moveX rfl) ?_
    refine RunT.ot0 (x := .lst (List.map eI a0)) rfl rfl rfl rfl (.moveX rfl) ?_
    refine RunT.ot0 (x := .v (.int .i64 (a0.length : Int))) rfl rfl rfl rfl (.lenLm Try.underlying23 rfl rfl) ?_
    refine RunT.ot0 (x := .v (.bool (decide (v30 < (a0.length : Int))))) rfl rfl rfl rfl (.bin rfl rfl (fun w => b_lss w) rfl) ?_
    refine RunT.nil ?_
    refine T.cond2 (t := decide (v30 < (a0.length : Int))) rfl (fun c31 => ?_) (fun c31 => ?_)
    · replace H := ct H c31
      refine T.skip ?_
      refine T.seq ?_
      refine T.block ?_
      refine T.seq ?_
      refine T.draw (wr := []) mixed rfl rfl ?_ rfl
      refine RunD.ot0 (x := .lst (List.map eI a0)) rfl rfl rfl rfl (.moveX rfl) rfl ?_
      refine RunD.ot0 (x := .v (.int .i64 v30)) rfl rfl rfl rfl (.moveX rfl) rfl ?_
      obtain ⟨y42, h43, H⟩ := bs H
      refine RunD.ot0 (x := .rptr [.v (.int .i64 y42)]) rfl rfl rfl rfl (.idxLX h43 enc_I sl23 rfl rfl rfl) rfl ?_
      refine RunD.ot0 (x := .v (.int .i64 y42)) rfl rfl rfl rfl (.loadR ty3 rfl rfl) rfl ?_
      refine RunD.ot0 (x := .v (.int .i64 a1)) rfl rfl rfl rfl (.moveX rfl) rfl ?_
      refine RunD.ot0 (x := .v (.int .i64 (wr (a1 - 1)))) rfl rfl rfl rfl (.bin rfl rfl (fun w => b_subw w) rfl) rfl ?_
      obtain ⟨r44, h45, H⟩ := bs H
      refine RunD.ot0 (x := .v (.bool r44)) rfl rfl rfl rfl (.callp (ref2_in_pc false k y42 0 (wr (a1 - 1)) r44 h45) rfl ⟨(.one .v), (.one .v), (.one .v), trivial⟩ rfl rfl rfl) rfl ?_
      refine RunD.ot0 (x := .v (.bool (!r44))) rfl rfl rfl rfl (.un rfl (fun w => u_not w) rfl) rfl ?_
      refine RunD.ot0 (x := .v (.bool (!r44))) rfl rfl rfl rfl (.moveX rfl) rfl ?_
      refine RunD.cases (t := 20) (c := !r44) rfl (fun g46 => ?_) (fun g46 => ?_)
      · replace H := ct H g46
        refine RunD.xn rfl rfl rfl (bo g46) rfl rfl ?_
        refine RunD.xn rfl rfl rfl (bo g46) rfl rfl ?_
        refine RunD.xn rfl rfl rfl (bo g46) rfl rfl ?_
        refine RunD.xu rfl rfl rfl rfl rfl rfl ?_
        refine RunD.xu rfl rfl rfl rfl rfl rfl ?_
        refine RunD.xu rfl rfl rfl rfl rfl rfl ?_
        refine RunD.xu rfl rfl rfl rfl rfl rfl ?_
        refine RunD.xu rfl rfl rfl rfl rfl rfl ?_
        refine RunD.xu rfl rfl rfl rfl rfl rfl ?_
        refine RunD.xu rfl rfl rfl rfl rfl rfl ?_
        refine RunD.xu rfl rfl rfl rfl rfl rfl ?_
        refine RunD.xu rfl rfl rfl rfl rfl rfl ?_
        refine RunD.xu rfl rfl rfl rfl rfl rfl ?_
        refine RunD.xn rfl rfl rfl (bo g46) rfl rfl ?_
        refine RunD.ot0 (x := .v (.bool true)) rfl rfl rfl rfl (.pickT (bo g46) rfl) rfl ?_
        refine RunD.nil (by kernel_rfl) ⟨rfl, rfl, ?_⟩
        refine T.condT rfl ?_
        refine T.seq ?_
        refine T.sub (sub_pick [] [] (st' := ⟨[], [], 200, []⟩) rfl rfl rfl rfl rfl) ?_
        refine T.region ?_
        refine RunT.ot0 (x := .v (.bool false)) rfl rfl rfl rfl (.assignX rfl) ?_
        refine RunT.nil ?_
        obtain rfl := si H
        have HX := exr HO28
        obtain rfl := si HX
        refine T.sub (sub_to (st' := ⟨[(4, .v (.bool false))], [], 8, []⟩) [] (by decide) rfl rfl (⟨⟨_, rfl, .one .v⟩, trivial⟩) (trivial)) ?_
        refine T.ret ?_
        exact RetOk.same [.v (.bool false)] ⟨rfl, trivial⟩ rfl rfl rfl
      · replace H := cf H g46
        refine RunD.gt0 (x := .v (.int .i64 v30)) rfl rfl rfl (bo g46) rfl rfl (.moveX rfl) rfl ?_
        refine RunD.gt0 (x := .v (.bool (decide (0 < v30)))) rfl rfl rfl (bo g46) rfl rfl (.bin rfl rfl (fun w => b_gtr w) rfl) rfl ?_
        refine RunD.gt0 (x := .v (.bool (decide (0 < v30)))) rfl rfl rfl (bo g46) rfl rfl (.moveX rfl) rfl ?_
        refine RunD.cases (t := 23) (c := decide (0 < v30)) rfl (fun g47 => ?_) (fun g47 => ?_)
        · replace H := ct H g47
          refine RunD.gt0 (x := .lst (List.map eI a0)) rfl rfl rfl (bo g47) rfl rfl (.moveX rfl) rfl ?_
          refine RunD.gt0 (x := .v (.int .i64 v30)) rfl rfl rfl (bo g47) rfl rfl (.moveX rfl) rfl ?_
          obtain ⟨y48, h49, H⟩ := bs H
          refine RunD.gt0 (x := .rptr [.v (.int .i64 y48)]) rfl rfl rfl (bo g47) rfl rfl (.idxLX h49 enc_I sl23 rfl rfl rfl) rfl ?_
          refine RunD.gt0 (x := .v (.int .i64 y48)) rfl rfl rfl (bo g47) rfl rfl (.loadR ty3 rfl rfl) rfl ?_
          refine RunD.gt0 (x := .lst (List.map eI a0)) rfl rfl rfl (bo g47) rfl rfl (.moveX rfl) rfl ?_
          refine RunD.gt0 (x := .v (.int .i64 v30)) rfl rfl rfl (bo g47) rfl rfl (.moveX rfl) rfl ?_
          refine RunD.gt0 (x := .v (.int .i64 (wr (v30 - 1)))) rfl rfl rfl (bo g47) rfl rfl (.bin rfl rfl (fun w => b_subw w) rfl) rfl ?_
          obtain ⟨y50, h51, H⟩ := bs H
          refine RunD.gt0 (x := .rptr [.v (.int .i64 y50)]) rfl rfl rfl (bo g47) rfl rfl (.idxLX h51 enc_I sl23 rfl rfl rfl) rfl ?_
          refine RunD.gt0 (x := .v (.int .i64 y50)) rfl rfl rfl (bo g47) rfl rfl (.loadR ty3 rfl rfl) rfl ?_
          refine RunD.gt0 (x := .v (.bool (decide (y48 ≤ y50)))) rfl rfl rfl (bo g47) rfl rfl (.bin rfl rfl (fun w => b_leq w) rfl) rfl ?_
          refine RunD.gt0 (x := .v (.bool (decide (y48 ≤ y50)))) rfl rfl rfl (bo g46) rfl rfl (.pickT (bo g47) rfl) rfl ?_
          refine RunD.ot0 (x := .v (.bool (decide (y48 ≤ y50)))) rfl rfl rfl rfl (.pickF (bo g46) rfl) rfl ?_
          refine RunD.nil (by kernel_rfl) ⟨rfl, rfl, ?_⟩
          refine T.cond2 (t := decide (y48 ≤ y50)) rfl (fun c52 => ?_) (fun c52 => ?_)
          · replace H := ct H c52
            refine T.seq ?_
            refine T.sub (sub_pick [] [] (st' := ⟨[], [], 200, []⟩) rfl rfl rfl rfl rfl) ?_
            refine T.region ?_
            refine RunT.ot0 (x := .v (.bool false)) rfl rfl rfl rfl (.assignX rfl) ?_
            refine RunT.nil ?_
            obtain rfl := si H
            have HX := exr HO28
            obtain rfl := si HX
            refine T.sub (sub_to (st' := ⟨[(4, .v (.bool false))], [], 8, []⟩) [] (by decide) rfl rfl (⟨⟨_, rfl, .one .v⟩, trivial⟩) (trivial)) ?_
            refine T.ret ?_
            exact RetOk.same [.v (.bool false)] ⟨rfl, trivial⟩ rfl rfl rfl
          · replace H := cf H c52
            refine T.skip ?_
            refine T.region ?_
            refine RunT.ot0 (x := .v (.int .i64 v30)) rfl rfl rfl rfl (.moveX rfl) ?_
            refine RunT.ot0 (x := .v (.int .i64 (wr (v30 + 1)))) rfl rfl rfl rfl (.bin rfl rfl (fun w => b_addw w) rfl) ?_
            refine RunT.ot0 (x := .v (.int .i64 (wr (v30 + 1)))) rfl rfl rfl rfl (.assignX rfl) ?_
            refine RunT.nil ?_
            exact ⟨n, Nat.lt_succ_self n, _, ⟨wr (v30 + 1), H, rfl⟩, (sub_to [] (by decide) rfl rfl (⟨⟨_, rfl, .one .lst⟩, ⟨⟨_, rfl, .one .v⟩, ⟨⟨_, rfl, .one .v⟩, trivial⟩⟩⟩) (trivial))⟩
        · replace H := cf H g47
          refine RunD.xn rfl rfl rfl (bo g47) rfl rfl ?_
          refine RunD.xn rfl rfl rfl (bo g47) rfl rfl ?_
          refine RunD.xn rfl rfl rfl (bo g47) rfl rfl ?_
          refine RunD.xn rfl rfl rfl (bo g47) rfl rfl ?_
          refine RunD.xn rfl rfl rfl (bo g47) rfl rfl ?_
          refine RunD.xn rfl rfl rfl (bo g47) rfl rfl ?_
          refine RunD.xn rfl rfl rfl (bo g47) rfl rfl ?_
          refine RunD.xn rfl rfl rfl (bo g47) rfl rfl ?_
          refine RunD.xn rfl rfl rfl (bo g47) rfl rfl ?_
          refine RunD.xn rfl rfl rfl (bo g47) rfl rfl ?_
          refine RunD.gt0 (x := .v (.bool false)) rfl rfl rfl (bo g46) rfl rfl (.pickF (bo g47) rfl) rfl ?_
          refine RunD.ot0 (x := .v (.bool false)) rfl rfl rfl rfl (.pickF (bo g46) rfl) rfl ?_
          refine RunD.nil (by kernel_rfl) ⟨rfl, rfl, ?_⟩
          refine T.condF rfl ?_
          refine T.skip ?_
          refine T.sub (sub_pick [0, 1, 5] [] (st' := ⟨[(0, .lst (List.map eI a0)), (1, .v (.int .i64 a1)), (5, .v (.int .i64 v30))], [], 200, []⟩) rfl rfl rfl rfl rfl) ?_
          refine T.region ?_
          refine RunT.ot0 (x := .v (.int .i64 v30)) rfl rfl rfl rfl (.moveX rfl) ?_
          refine RunT.ot0 (x := .v (.int .i64 (wr (v30 + 1)))) rfl rfl rfl rfl (.bin rfl rfl (fun w => b_addw w) rfl) ?_
          refine RunT.ot0 (x := .v (.int .i64 (wr (v30 + 1)))) rfl rfl rfl rfl (.assignX rfl) ?_
          refine RunT.nil ?_
          exact ⟨n, Nat.lt_succ_self n, _, ⟨wr (v30 + 1), H, rfl⟩, (sub_to [] (by decide) rfl rfl (⟨⟨_, rfl, .one .lst⟩, ⟨⟨_, rfl, .one .v⟩, ⟨⟨_, rfl, .one .v⟩, trivial⟩⟩⟩) (trivial))⟩
    · replace H := cf H c31
      refine T.exit ?_
      obtain rfl := si H
      exact ⟨_, rfl, (sub_to [] (by decide) rfl rfl (⟨⟨_, rfl, .one .lst⟩, trivial⟩) (trivial))⟩
  · intro v29 s hR hS
    subst hR
    have H := exg HO28
    refine T.sub hS ?_
    refine T.seq ?_
    refine T.region ?_
    refine RunT.ot0 (x := .lst (List.map eI a0)) rfl rfl rfl rfl (.moveX rfl) ?_
    refine RunT.ot0 (x := .v (.int .i64 (a0.length : Int))) rfl rfl rfl rfl (.lenLm Try.underlying23 rfl rfl) ?_
    refine RunT.ot0 (x := .v (.bool (decide ((a0.length : Int) ≤ 200)))) rfl rfl rfl rfl (.bin rfl rfl (fun w => b_leq w) rfl) ?_
    refine RunT.ot0 (x := .v (.bool (decide ((a0.length : Int) ≤ 200)))) rfl rfl rfl rfl (.assignX rfl) ?_
    refine RunT.nil ?_
    obtain rfl := si H
    refine T.sub (sub_to (st' := ⟨[(4, .v (.bool (decide ((a0.length : Int) ≤ 200))))], [], 8, []⟩) [] (by decide) rfl rfl (⟨⟨_, rfl, .one .v⟩, trivial⟩) (trivial)) ?_
    refine T.ret ?_
    exact RetOk.same [.v (.bool (decide ((a0.length : Int) ≤ 200)))] ⟨rfl, trivial⟩ rfl rfl rfl
set_option maxHeartbeats 4000000 in
theorem ref2_poles_pc (al : Bool) (k : Nat) (a0 : (List Pole)) (o : Bool) (H : ref2_poles k a0 = some o) : PC Try.prog al 135 [.lst (List.map ePole a0)] (.v (.bool o)) := by
  unfold ref2_poles at H
  refine PC.of_T Try.func135 rfl rfl (n := 38) rfl rfl (.inr rfl) ?_
  intro base B w0
  refine T.st (st' := ⟨[(0, .lst (List.map ePole a0))], [], 0, []⟩) rfl ?_
  refine T.seq ?_
  refine T.region ?_
  refine RunT.ot0 (x := .v (.bool false)) rfl rfl rfl rfl (.assignX rfl) ?_
  refine RunT.nil ?_
  refine T.seq ?_
  refine T.seq ?_
  refine T.region ?_
  refine RunT.ot0 (x := .v (.int .i64 0)) rfl rfl rfl rfl (.assignX rfl) ?_
  refine RunT.nil ?_
  obtain ⟨o34, E35, HO36⟩ := bs H
  refine T.cutPE (fun v37 => o34 = .go v37) (fun v37 => ⟨[(0, .lst (List.map ePole a0))], [], 8, []⟩) ?_ ?_
  · have H := E35
    refine T.block ?_
    refine T.loopS (fun n s => ∃ (v38 : Int), ref2_poles_l0 k a0 n v38 = some o34 ∧ s = ⟨[(0, .lst (List.map ePole a0)), (3, .v (.int .i64 v38))], [], 8, []⟩) k ⟨_, ⟨0, H, rfl⟩, sub_to [] (by decide) rfl rfl (⟨⟨_, rfl, .one .lst⟩, ⟨⟨_, rfl, .one .v⟩, trivial⟩⟩) (trivial)⟩ ?_
    rintro n s ⟨v38, H, rfl⟩
    rcases n with _ | n
    · cases (show none = some _ from H)
    rw [ref2_poles_l0] at H
    refine T.seq ?_
    refine T.seq ?_
    refine T.region ?_
    refine RunT.ot0 (x := .v (.int .i64 v38)) rfl rfl rfl rfl (.moveX rfl) ?_
    refine RunT.ot0 (x := .lst (List.map ePole a0)) rfl rfl rfl rfl (.moveX rfl) ?_
    refine RunT.ot0 (x := .v (.int .i64 (a0.length : Int))) rfl rfl rfl rfl (.lenLm Try.underlying24 rfl rfl) ?_
    refine RunT.ot0 (x := .v (.bool (decide (v38 < (a0.length : Int))))) rfl rfl rfl rfl (.bin rfl rfl (fun w => b_lss w) rfl) ?_
    refine RunT.nil ?_
    refine T.cond2 (t := decide (v38 < (a0.length : Int))) rfl (fun c39 => ?_) (fun c39 => ?_)
    · replace H := ct H c39
      refine T.skip ?_
      refine T.seq ?_
      refine T.block ?_
      refine T.seq ?_
      refine T.region ?_
      refine RunT.ot0 (x := .lst (List.map ePole a0)) rfl rfl rfl rfl (.moveX rfl) ?_
      refine RunT.ot0 (x := .v (.int .i64 v38)) rfl rfl rfl rfl (.moveX rfl) ?_
      obtain ⟨y40, h41, H⟩ := bs H
      refine RunT.ot0 (x := .rptr [.v (.int .i64 y40.X), .v (.int .i64 y40.Y), .v (.int .i64 y40.R)]) rfl rfl rfl rfl (.idxLX h41 enc_Pole sl24 rfl rfl rfl) ?_
      refine RunT.ot0 (x := .rptr [.v (.int .i64 y40.X), .v (.int .i64 y40.Y), .v (.int .i64 y40.R)]) rfl rfl rfl rfl (.fieldRX fl60_0 rfl rfl) ?_
      refine RunT.ot0 (x := .v (.int .i64 y40.X)) rfl rfl rfl rfl (.loadR ty3 rfl rfl) ?_
      obtain ⟨r42, h43, H⟩ := bs H
      refine RunT.ot0 (x := .v (.bool r42)) rfl rfl rfl rfl (.callp (ref2_coord_pc false k y40.X r42 h43) rfl ⟨(.one .v), trivial⟩ rfl rfl rfl) ?_
      refine RunT.ot0 (x := .v (.bool (!r42))) rfl rfl rfl rfl (.un rfl (fun w => u_not w) rfl) ?_
      refine RunT.ot0 (x := .v (.bool (!r42))) rfl rfl rfl rfl (.moveX rfl) ?_
      refine RunT.cases (t := 17) (c := !r42) rfl (fun g44 => ?_) (fun g44 => ?_)
      · replace H := ct H g44
        refine RunT.xn rfl rfl rfl (bo g44) rfl rfl ?_
        refine RunT.xn rfl rfl rfl (bo g44) rfl rfl ?_
        refine RunT.xn rfl rfl rfl (bo g44) rfl rfl ?_
        refine RunT.xn rfl rfl rfl (bo g44) rfl rfl ?_
        refine RunT.xn rfl rfl rfl (bo g44) rfl rfl ?_
        refine RunT.xn rfl rfl rfl (bo g44) rfl rfl ?_
        refine RunT.xn rfl rfl rfl (bo g44) rfl rfl ?_
        refine RunT.ot0 (x := .v (.bool true)) rfl rfl rfl rfl (.pickT (bo g44) rfl) ?_
        refine RunT.ot0 (x := .v (.bool true)) rfl rfl rfl rfl (.moveX rfl) ?_
        refine RunT.xn rfl rfl rfl rfl rfl rfl ?_
        refine RunT.xn rfl rfl rfl rfl rfl rfl ?_
        refine RunT.xn rfl rfl rfl rfl rfl rfl ?_
        refine RunT.xn rfl rfl rfl rfl rfl rfl ?_
        refine RunT.xn rfl rfl rfl rfl rfl rfl ?_
        refine RunT.xn rfl rfl rfl rfl rfl rfl ?_
        refine RunT.xn rfl rfl rfl rfl rfl rfl ?_
        refine RunT.ot0 (x := .v (.bool true)) rfl rfl rfl rfl (.pickT rfl rfl) ?_
        refine RunT.nil ?_
        refine T.condT rfl ?_
        refine T.seq ?_
        refine T.sub (sub_pick [] [] (st' := ⟨[], [], 8, []⟩) rfl rfl rfl rfl rfl) ?_
        refine T.region ?_
        refine RunT.ot0 (x := .v (.bool false)) rfl rfl rfl rfl (.assignX rfl) ?_
        refine RunT.nil ?_
        obtain rfl := si H
        have HX := exr HO36
        obtain rfl := si HX
        refine T.sub (sub_to (st' := ⟨[(2, .v (.bool false))], [], 8, []⟩) [] (by decide) rfl rfl (⟨⟨_, rfl, .one .v⟩, trivial⟩) (trivial)) ?_
        refine T.ret ?_
        exact RetOk.same [.v (.bool false)] ⟨rfl, trivial⟩ rfl rfl rfl
      · replace H := cf H g44
        refine RunT.gt0 (x := .lst (List.map ePole a0)) rfl rfl rfl (bo g44) rfl rfl (.moveX rfl) ?_
        refine RunT.gt0 (x := .v (.int .i64 v38)) rfl rfl rfl (bo g44) rfl rfl (.moveX rfl) ?_
        obtain ⟨y45, h46, H⟩ := bs H
        refine RunT.gt0 (x := .rptr [.v (.int .i64 y45.X), .v (.int .i64 y45.Y), .v (.int .i64 y45.R)]) rfl rfl rfl (bo g44) rfl rfl (.idxLX h46 enc_Pole sl24 rfl rfl rfl) ?_
        refine RunT.gt0 (x := .rptr [.v (.int .i64 y45.Y), .v (.int .i64 y45.R)]) rfl rfl rfl (bo g44) rfl rfl (.fieldRX fl60_1 rfl rfl) ?_
        refine RunT.gt0 (x := .v (.int .i64 y45.Y)) rfl rfl rfl (bo g44) rfl rfl (.loadR ty3 rfl rfl) ?_
        obtain ⟨r47, h48, H⟩ := bs H
        refine RunT.gt0 (x := .v (.bool r47)) rfl rfl rfl (bo g44) rfl rfl (.callp (ref2_coord_pc false k y45.Y r47 h48) rfl ⟨(.one .v), trivial⟩ rfl rfl rfl) ?_
        refine RunT.gt0 (x := .v (.bool (!r47))) rfl rfl rfl (bo g44) rfl rfl (.un rfl (fun w => u_not w) rfl) ?_
        refine RunT.ot0 (x := .v (.bool (!r47))) rfl rfl rfl rfl (.pickF (bo g44) rfl) ?_
        refine RunT.ot0 (x := .v (.bool (!r47))) rfl rfl rfl rfl (.moveX rfl) ?_
        refine RunT.cases (t := 26) (c := !r47) rfl (fun g49 => ?_) (fun g49 => ?_)
        · replace H := ct H g49
          refine RunT.xn rfl rfl rfl (bo g49) rfl rfl ?_
          refine RunT.xn rfl rfl rfl (bo g49) rfl rfl ?_
          refine RunT.xn rfl rfl rfl (bo g49) rfl rfl ?_
          refine RunT.xn rfl rfl rfl (bo g49) rfl rfl ?_
          refine RunT.xn rfl rfl rfl (bo g49) rfl rfl ?_
          refine RunT.xn rfl rfl rfl (bo g49) rfl rfl ?_
          refine RunT.xn rfl rfl rfl (bo g49) rfl rfl ?_
          refine RunT.ot0 (x := .v (.bool true)) rfl rfl rfl rfl (.pickT (bo g49) rfl) ?_
          refine RunT.nil ?_
          refine T.condT rfl ?_
          refine T.seq ?_
          refine T.region ?_
          refine RunT.ot0 (x := .v (.bool false)) rfl rfl rfl rfl (.assignX rfl) ?_
          refine RunT.nil ?_
          obtain rfl := si H
          have HX := exr HO36
          obtain rfl := si HX
          refine T.sub (sub_to (st' := ⟨[(2, .v (.bool false))], [], 8, []⟩) [] (by decide) rfl rfl (⟨⟨_, rfl, .one .v⟩, trivial⟩) (trivial)) ?_
          refine T.ret ?_
          exact RetOk.same [.v (.bool false)] ⟨rfl, trivial⟩ rfl rfl rfl
        · replace H := cf H g49
          refine RunT.gt0 (x := .lst (List.map ePole a0)) rfl rfl rfl (bo g49) rfl rfl (.moveX rfl) ?_
          refine RunT.gt0 (x := .v (.int .i64 v38)) rfl rfl rfl (bo g49) rfl rfl (.moveX rfl) ?_
          obtain ⟨y50, h51, H⟩ := bs H
          refine RunT.gt0 (x := .rptr [.v (.int .i64 y50.X), .v (.int .i64 y50.Y), .v (.int .i64 y50.R)]) rfl rfl rfl (bo g49) rfl rfl (.idxLX h51 enc_Pole sl24 rfl rfl rfl) ?_
          refine RunT.gt0 (x := .rptr [.v (.int .i64 y50.R)]) rfl rfl rfl (bo g49) rfl rfl (.fieldRX fl60_2 rfl rfl) ?_
          refine RunT.gt0 (x := .v (.int .i64 y50.R)) rfl rfl rfl (bo g49) rfl rfl (.loadR ty3 rfl rfl) ?_
          obtain ⟨r52, h53, H⟩ := bs H
          refine RunT.gt0 (x := .v (.bool r52)) rfl rfl rfl (bo g49) rfl rfl (.callp (ref2_in_pc false k y50.R 1 1048576 r52 h53) rfl ⟨(.one .v), (.one .v), (.one .v), trivial⟩ rfl rfl rfl) ?_
          refine RunT.gt0 (x := .v (.bool (!r52))) rfl rfl rfl (bo g49) rfl rfl (.un rfl (fun w => u_not w) rfl) ?_
          refine RunT.ot0 (x := .v (.bool (!r52))) rfl rfl rfl rfl (.pickF (bo g49) rfl) ?_
          refine RunT.nil ?_
          refine T.cond2 (t := !r52) rfl (fun c54 => ?_) (fun c54 => ?_)
          · replace H := ct H c54
            refine T.seq ?_
            refine T.sub (sub_pick [] [] (st' := ⟨[], [], 8, []⟩) rfl rfl rfl rfl rfl) ?_
            refine T.region ?_
            refine RunT.ot0 (x := .v (.bool false)) rfl rfl rfl rfl (.assignX rfl) ?_
            refine RunT.nil ?_
            obtain rfl := si H
            have HX := exr HO36
            obtain rfl := si HX
            refine T.sub (sub_to (st' := ⟨[(2, .v (.bool false))], [], 8, []⟩) [] (by decide) rfl rfl (⟨⟨_, rfl, .one .v⟩, trivial⟩) (trivial)) ?_
            refine T.ret ?_
            exact RetOk.same [.v (.bool false)] ⟨rfl, trivial⟩ rfl rfl rfl
          · replace H := cf H c54
            refine T.skip ?_
            refine T.region ?_
            refine RunT.ot0 (x := .v (.int .i64 v38)) rfl rfl rfl rfl (.moveX rfl) ?_
            refine RunT.ot0 (x := .v (.int .i64 (wr (v38 + 1)))) rfl rfl rfl rfl (.bin rfl rfl (fun w => b_addw w) rfl) ?_
            refine RunT.ot0 (x := .v (.int .i64 (wr (v38 + 1)))) rfl rfl rfl rfl (.assignX rfl) ?_
            refine RunT.nil ?_
            exact ⟨n, Nat.lt_succ_self n, _, ⟨wr (v38 + 1), H, rfl⟩, (sub_to [] (by decide) rfl rfl (⟨⟨_, rfl, .one .lst⟩, ⟨⟨_, rfl, .one .v⟩, trivial⟩⟩) (trivial))⟩
    · replace H := cf H c39
      refine T.exit ?_
      obtain rfl := si H
      exact ⟨_, rfl, (sub_to [] (by decide) rfl rfl (⟨⟨_, rfl, .one .lst⟩, trivial⟩) (trivial))⟩
  · intro v37 s hR hS
    subst hR
    have H := exg HO36
    refine T.sub hS ?_
    refine T.seq ?_
    refine T.region ?_
    refine RunT.ot0 (x := .lst (List.map ePole a0)) rfl rfl rfl rfl (.moveX rfl) ?_
    refine RunT.ot0 (x := .v (.int .i64 (a0.length : Int))) rfl rfl rfl rfl (.lenLm Try.underlying24 rfl rfl) ?_
    refine RunT.ot0 (x := .v (.bool (decide ((a0.length : Int) ≤ 200)))) rfl rfl rfl rfl (.bin rfl rfl (fun w => b_leq w) rfl) ?_
    refine RunT.ot0 (x := .v (.bool (decide ((a0.length : Int) ≤ 200)))) rfl rfl rfl rfl (.assignX rfl) ?_
    refine RunT.nil ?_
    obtain rfl := si H
    refine T.sub (sub_to (st' := ⟨[(2, .v (.bool (decide ((a0.length : Int) ≤ 200))))], [], 8, []⟩) [] (by decide) rfl rfl (⟨⟨_, rfl, .one .v⟩, trivial⟩) (trivial)) ?_
    refine T.ret ?_
    exact RetOk.same [.v (.bool (decide ((a0.length : Int) ≤ 200)))] ⟨rfl, trivial⟩ rfl rfl rfl
set_option maxHeartbeats 4000000 in
theorem ref2_Wrong_pc (al : Bool) (k : Nat) (a0 : Venue) (o : ByteArray) (H : ref2_Wrong k a0 = some o) : PC Try.prog al 96 [.agg [.lst (List.map eSeat a0.Seats), .v (.int .i64 a0.Gap), .v (.int .i64 a0.Radius), .lst (List.map eI a0.Kills), .lst (List.map ePole a0.Poles)]] (.v (.string o)) := by
  unfold ref2_Wrong at H
  refine PC.of_T Try.func96 rfl rfl (n := 31) rfl rfl (.inr rfl) ?_
  intro base B w0
  refine T.st (st' := ⟨[(0, .agg [.lst (List.map eSeat a0.Seats), .v (.int .i64 a0.Gap), .v (.int .i64 a0.Radius), .lst (List.map eI a0.Kills), .lst (List.map ePole a0.Poles)])], [], 0, []⟩) rfl ?_
  refine T.seq ?_
  refine T.region ?_
  refine RunT.ot1 (x := .ptr 0 0) (p0 := (0, some (.box [.lst (List.map eSeat a0.Seats), .v (.int .i64 a0.Gap), .v (.int .i64 a0.Radius), .lst (List.map eI a0.Kills), .lst (List.map ePole a0.Poles)]))) (n' := 8) rfl rfl rfl rfl (.boxX rfl rfl rfl) rfl ?_
  refine RunT.ot0 (x := .v (.string (⟨#[]⟩ : ByteArray))) rfl rfl rfl rfl (.assignX rfl) ?_
  refine RunT.nil ?_
  refine T.seq ?_
  refine T.block ?_
  refine T.seq ?_
  refine T.region ?_
  refine RunT.ot0 (x := .ptr 0 0) rfl rfl rfl rfl (.fieldPX fl26_0 rfl rfl) ?_
  refine RunT.ot0 (x := .lst (List.map eSeat a0.Seats)) rfl rfl rfl rfl (.loadP ty22 rfl rfl rfl) ?_
  obtain ⟨r1, h2, H⟩ := bs H
  refine RunT.ot0 (x := .v (.bool r1)) rfl rfl rfl rfl (.callp (ref2_seats_pc false k a0.Seats r1 h2) rfl ⟨(.one .lst), trivial⟩ rfl rfl rfl) ?_
  refine RunT.ot0 (x := .v (.bool (!r1))) rfl rfl rfl rfl (.un rfl (fun w => u_not w) rfl) ?_
  refine RunT.ot0 (x := .v (.bool (!r1))) rfl rfl rfl rfl (.assignX rfl) ?_
  refine RunT.nil ?_
  refine T.cond2 (t := !r1) rfl (fun c3 => ?_) (fun c3 => ?_)
  · replace H := ct H c3
    refine T.seq ?_
    refine T.region ?_
    refine RunT.ot0 (x := .v (.string (⟨#[115, 101, 97, 116, 115]⟩ : ByteArray))) rfl rfl rfl rfl (.assignX rfl) ?_
    refine RunT.nil ?_
    obtain rfl := si H
    refine T.sub (sub_to (st' := ⟨[(2, .v (.string (⟨#[115, 101, 97, 116, 115]⟩ : ByteArray)))], [], 8, []⟩) [] (by decide) rfl rfl (⟨⟨_, rfl, .one .v⟩, trivial⟩) (trivial)) ?_
    refine T.ret ?_
    exact RetOk.same [.v (.string (⟨#[115, 101, 97, 116, 115]⟩ : ByteArray))] ⟨rfl, trivial⟩ rfl rfl rfl
  · replace H := cf H c3
    refine T.seq ?_
    refine T.region ?_
    refine RunT.ot0 (x := .ptr 0 1) rfl rfl rfl rfl (.fieldPX fl26_1 rfl rfl) ?_
    refine RunT.ot0 (x := .v (.int .i64 a0.Gap)) rfl rfl rfl rfl (.loadP ty3 rfl rfl rfl) ?_
    obtain ⟨r4, h5, H⟩ := bs H
    refine RunT.ot0 (x := .v (.bool r4)) rfl rfl rfl rfl (.callp (ref2_in_pc false k a0.Gap 1 1048576 r4 h5) rfl ⟨(.one .v), (.one .v), (.one .v), trivial⟩ rfl rfl rfl) ?_
    refine RunT.ot0 (x := .v (.bool (!r4))) rfl rfl rfl rfl (.un rfl (fun w => u_not w) rfl) ?_
    refine RunT.ot0 (x := .v (.bool (!r4))) rfl rfl rfl rfl (.assignX rfl) ?_
    refine RunT.nil ?_
    refine T.cond2 (t := !r4) rfl (fun c6 => ?_) (fun c6 => ?_)
    · replace H := ct H c6
      refine T.seq ?_
      refine T.region ?_
      refine RunT.ot0 (x := .v (.string (⟨#[103, 97, 112]⟩ : ByteArray))) rfl rfl rfl rfl (.assignX rfl) ?_
      refine RunT.nil ?_
      obtain rfl := si H
      refine T.sub (sub_to (st' := ⟨[(2, .v (.string (⟨#[103, 97, 112]⟩ : ByteArray)))], [], 8, []⟩) [] (by decide) rfl rfl (⟨⟨_, rfl, .one .v⟩, trivial⟩) (trivial)) ?_
      refine T.ret ?_
      exact RetOk.same [.v (.string (⟨#[103, 97, 112]⟩ : ByteArray))] ⟨rfl, trivial⟩ rfl rfl rfl
    · replace H := cf H c6
      refine T.seq ?_
      refine T.region ?_
      refine RunT.ot0 (x := .ptr 0 2) rfl rfl rfl rfl (.fieldPX fl26_2 rfl rfl) ?_
      refine RunT.ot0 (x := .v (.int .i64 a0.Radius)) rfl rfl rfl rfl (.loadP ty3 rfl rfl rfl) ?_
      obtain ⟨r7, h8, H⟩ := bs H
      refine RunT.ot0 (x := .v (.bool r7)) rfl rfl rfl rfl (.callp (ref2_in_pc false k a0.Radius 0 1048576 r7 h8) rfl ⟨(.one .v), (.one .v), (.one .v), trivial⟩ rfl rfl rfl) ?_
      refine RunT.ot0 (x := .v (.bool (!r7))) rfl rfl rfl rfl (.un rfl (fun w => u_not w) rfl) ?_
      refine RunT.ot0 (x := .v (.bool (!r7))) rfl rfl rfl rfl (.assignX rfl) ?_
      refine RunT.nil ?_
      refine T.cond2 (t := !r7) rfl (fun c9 => ?_) (fun c9 => ?_)
      · replace H := ct H c9
        refine T.seq ?_
        refine T.sub (sub_pick [] [] (st' := ⟨[], [], 8, []⟩) rfl rfl rfl rfl rfl) ?_
        refine T.region ?_
        refine RunT.ot0 (x := .v (.string (⟨#[114, 97, 100, 105, 117, 115]⟩ : ByteArray))) rfl rfl rfl rfl (.assignX rfl) ?_
        refine RunT.nil ?_
        obtain rfl := si H
        refine T.sub (sub_to (st' := ⟨[(2, .v (.string (⟨#[114, 97, 100, 105, 117, 115]⟩ : ByteArray)))], [], 8, []⟩) [] (by decide) rfl rfl (⟨⟨_, rfl, .one .v⟩, trivial⟩) (trivial)) ?_
        refine T.ret ?_
        exact RetOk.same [.v (.string (⟨#[114, 97, 100, 105, 117, 115]⟩ : ByteArray))] ⟨rfl, trivial⟩ rfl rfl rfl
      · replace H := cf H c9
        refine T.seq ?_
        refine T.region ?_
        refine RunT.ot0 (x := .ptr 0 3) rfl rfl rfl rfl (.fieldPX fl26_3 rfl rfl) ?_
        refine RunT.ot0 (x := .lst (List.map eI a0.Kills)) rfl rfl rfl rfl (.loadP ty23 rfl rfl rfl) ?_
        refine RunT.ot0 (x := .ptr 0 0) rfl rfl rfl rfl (.fieldPX fl26_0 rfl rfl) ?_
        refine RunT.ot0 (x := .lst (List.map eSeat a0.Seats)) rfl rfl rfl rfl (.loadP ty22 rfl rfl rfl) ?_
        refine RunT.ot0 (x := .v (.int .i64 (a0.Seats.length : Int))) rfl rfl rfl rfl (.lenLm Try.underlying22 rfl rfl) ?_
        obtain ⟨r10, h11, H⟩ := bs H
        refine RunT.ot0 (x := .v (.bool r10)) rfl rfl rfl rfl (.callp (ref2_kills_pc false k a0.Kills (a0.Seats.length : Int) r10 h11) rfl ⟨(.one .lst), (.one .v), trivial⟩ rfl rfl rfl) ?_
        refine RunT.ot0 (x := .v (.bool (!r10))) rfl rfl rfl rfl (.un rfl (fun w => u_not w) rfl) ?_
        refine RunT.ot0 (x := .v (.bool (!r10))) rfl rfl rfl rfl (.assignX rfl) ?_
        refine RunT.nil ?_
        refine T.cond2 (t := !r10) rfl (fun c12 => ?_) (fun c12 => ?_)
        · replace H := ct H c12
          refine T.seq ?_
          refine T.region ?_
          refine RunT.ot0 (x := .v (.string (⟨#[107, 105, 108, 108, 115]⟩ : ByteArray))) rfl rfl rfl rfl (.assignX rfl) ?_
          refine RunT.nil ?_
          obtain rfl := si H
          refine T.sub (sub_to (st' := ⟨[(2, .v (.string (⟨#[107, 105, 108, 108, 115]⟩ : ByteArray)))], [], 8, []⟩) [] (by decide) rfl rfl (⟨⟨_, rfl, .one .v⟩, trivial⟩) (trivial)) ?_
          refine T.ret ?_
          exact RetOk.same [.v (.string (⟨#[107, 105, 108, 108, 115]⟩ : ByteArray))] ⟨rfl, trivial⟩ rfl rfl rfl
        · replace H := cf H c12
          refine T.seq ?_
          refine T.region ?_
          refine RunT.ot0 (x := .ptr 0 4) rfl rfl rfl rfl (.fieldPX fl26_4 rfl rfl) ?_
          refine RunT.ot0 (x := .lst (List.map ePole a0.Poles)) rfl rfl rfl rfl (.loadP ty24 rfl rfl rfl) ?_
          obtain ⟨r13, h14, H⟩ := bs H
          refine RunT.ot0 (x := .v (.bool r13)) rfl rfl rfl rfl (.callp (ref2_poles_pc false k a0.Poles r13 h14) rfl ⟨(.one .lst), trivial⟩ rfl rfl rfl) ?_
          refine RunT.ot0 (x := .v (.bool (!r13))) rfl rfl rfl rfl (.un rfl (fun w => u_not w) rfl) ?_
          refine RunT.ot0 (x := .v (.bool (!r13))) rfl rfl rfl rfl (.assignX rfl) ?_
          refine RunT.nil ?_
          refine T.cond2 (t := !r13) rfl (fun c15 => ?_) (fun c15 => ?_)
          · replace H := ct H c15
            refine T.seq ?_
            refine T.region ?_
            refine RunT.ot0 (x := .v (.string (⟨#[112, 111, 108, 101, 115]⟩ : ByteArray))) rfl rfl rfl rfl (.assignX rfl) ?_
            refine RunT.nil ?_
            obtain rfl := si H
            refine T.sub (sub_to (st' := ⟨[(2, .v (.string (⟨#[112, 111, 108, 101, 115]⟩ : ByteArray)))], [], 8, []⟩) [] (by decide) rfl rfl (⟨⟨_, rfl, .one .v⟩, trivial⟩) (trivial)) ?_
            refine T.ret ?_
            exact RetOk.same [.v (.string (⟨#[112, 111, 108, 101, 115]⟩ : ByteArray))] ⟨rfl, trivial⟩ rfl rfl rfl
          · replace H := cf H c15
            refine T.skip ?_
            refine T.seq ?_
            refine T.sub (sub_pick [] [] (st' := ⟨[], [], 8, []⟩) rfl rfl rfl rfl rfl) ?_
            refine T.region ?_
            refine RunT.ot0 (x := .v (.string (⟨#[]⟩ : ByteArray))) rfl rfl rfl rfl (.assignX rfl) ?_
            refine RunT.nil ?_
            obtain rfl := si H
            refine T.sub (sub_to (st' := ⟨[(2, .v (.string (⟨#[]⟩ : ByteArray)))], [], 8, []⟩) [] (by decide) rfl rfl (⟨⟨_, rfl, .one .v⟩, trivial⟩) (trivial)) ?_
            refine T.ret ?_
            exact RetOk.same [.v (.string (⟨#[]⟩ : ByteArray))] ⟨rfl, trivial⟩ rfl rfl rfl
set_option maxHeartbeats 4000000 in
theorem ref2_May_pc (al : Bool) (k : Nat) (a0 : Venue) (o : Bool) (H : ref2_May k a0 = some o) : PC Try.prog al 38 [.agg [.lst (List.map eSeat a0.Seats), .v (.int .i64 a0.Gap), .v (.int .i64 a0.Radius), .lst (List.map eI a0.Kills), .lst (List.map ePole a0.Poles)]] (.v (.bool o)) := by
  unfold ref2_May at H
  refine PC.of_T Try.func38 rfl rfl (n := 6) rfl rfl (.inr rfl) ?_
  intro base B w0
  refine T.st (st' := ⟨[(0, .agg [.lst (List.map eSeat a0.Seats), .v (.int .i64 a0.Gap), .v (.int .i64 a0.Radius), .lst (List.map eI a0.Kills), .lst (List.map ePole a0.Poles)])], [], 0, []⟩) rfl ?_
  refine T.seq ?_
  refine T.region ?_
  refine RunT.ot1 (x := .ptr 0 0) (p0 := (0, some (.box [.lst (List.map eSeat a0.Seats), .v (.int .i64 a0.Gap), .v (.int .i64 a0.Radius), .lst (List.map eI a0.Kills), .lst (List.map ePole a0.Poles)]))) (n' := 8) rfl rfl rfl rfl (.boxX rfl rfl rfl) rfl ?_
  refine RunT.ot0 (x := .v (.bool false)) rfl rfl rfl rfl (.assignX rfl) ?_
  refine RunT.nil ?_
  refine T.seq ?_
  refine T.region ?_
  refine RunT.ot0 (x := .agg [.lst (List.map eSeat a0.Seats), .v (.int .i64 a0.Gap), .v (.int .i64 a0.Radius), .lst (List.map eI a0.Kills), .lst (List.map ePole a0.Poles)]) rfl rfl rfl rfl (.loadP ty26 rfl rfl rfl) ?_
  obtain ⟨r1, h2, H⟩ := bs H
  refine RunT.ot0 (x := .v (.string r1)) rfl rfl rfl rfl (.callp (ref2_Wrong_pc false k a0 r1 h2) rfl ⟨(.agg' ⟨.lst, .v, .v, .lst, .lst, trivial⟩), trivial⟩ rfl rfl rfl) ?_
  refine RunT.ot0 (x := .v (.bool (r1 == (⟨#[]⟩ : ByteArray)))) rfl rfl rfl rfl (.bin rfl rfl (fun w => eqStr w) rfl) ?_
  refine RunT.ot0 (x := .v (.bool (r1 == (⟨#[]⟩ : ByteArray)))) rfl rfl rfl rfl (.assignX rfl) ?_
  refine RunT.nil ?_
  obtain rfl := si H
  refine T.sub (sub_to (st' := ⟨[(2, .v (.bool (r1 == (⟨#[]⟩ : ByteArray))))], [], 8, []⟩) [] (by decide) rfl rfl (⟨⟨_, rfl, .one .v⟩, trivial⟩) (trivial)) ?_
  refine T.ret ?_
  exact RetOk.same [.v (.bool (r1 == (⟨#[]⟩ : ByteArray)))] ⟨rfl, trivial⟩ rfl rfl rfl
set_option maxHeartbeats 4000000 in
theorem ref6_coord_pc (al : Bool) (k : Nat) (a0 : Int) (o : Bool) (H : ref6_coord k a0 = some o) : PC Try.prog al 89 [.v (.int .i64 a0)] (.v (.bool o)) := by
  unfold ref6_coord at H
  refine PC.of_T Try.func89 rfl rfl (n := 9) rfl rfl (.inr rfl) ?_
  intro base B w0
  refine T.st (st' := ⟨[(0, .v (.int .i64 a0))], [], 0, []⟩) rfl ?_
  refine T.seq ?_
  refine T.region ?_
  refine RunT.ot0 (x := .v (.bool false)) rfl rfl rfl rfl (.assignX rfl) ?_
  refine RunT.nil ?_
  refine T.seq ?_
  refine T.region ?_
  refine RunT.ot0 (x := .v (.int .i64 a0)) rfl rfl rfl rfl (.moveX rfl) ?_
  refine RunT.ot0 (x := .v (.bool (decide ((-1048576) ≤ a0)))) rfl rfl rfl rfl (.bin rfl rfl (fun w => b_geq w) rfl) ?_
  refine RunT.ot0 (x := .v (.bool (decide ((-1048576) ≤ a0)))) rfl rfl rfl rfl (.moveX rfl) ?_
  refine RunT.cases (t := 5) (c := decide ((-1048576) ≤ a0)) rfl (fun g1 => ?_) (fun g1 => ?_)
  · replace H := ct H g1
    refine RunT.gt0 (x := .v (.int .i64 a0)) rfl rfl rfl (bo g1) rfl rfl (.moveX rfl) ?_
    refine RunT.gt0 (x := .v (.bool (decide (a0 ≤ 1048576)))) rfl rfl rfl (bo g1) rfl rfl (.bin rfl rfl (fun w => b_leq w) rfl) ?_
    refine RunT.ot0 (x := .v (.bool (decide (a0 ≤ 1048576)))) rfl rfl rfl rfl (.pickT (bo g1) rfl) ?_
    refine RunT.ot0 (x := .v (.bool (decide (a0 ≤ 1048576)))) rfl rfl rfl rfl (.assignX rfl) ?_
    refine RunT.nil ?_
    obtain rfl := si H
    refine T.sub (sub_to (st' := ⟨[(2, .v (.bool (decide (a0 ≤ 1048576))))], [], 8, []⟩) [] (by decide) rfl rfl (⟨⟨_, rfl, .one .v⟩, trivial⟩) (trivial)) ?_
    refine T.ret ?_
    exact RetOk.same [.v (.bool (decide (a0 ≤ 1048576)))] ⟨rfl, trivial⟩ rfl rfl rfl
  · replace H := cf H g1
    refine RunT.xn rfl rfl rfl (bo g1) rfl rfl ?_
    refine RunT.xn rfl rfl rfl (bo g1) rfl rfl ?_
    refine RunT.ot0 (x := .v (.bool false)) rfl rfl rfl rfl (.pickF (bo g1) rfl) ?_
    refine RunT.ot0 (x := .v (.bool false)) rfl rfl rfl rfl (.assignX rfl) ?_
    refine RunT.nil ?_
    obtain rfl := si H
    refine T.sub (sub_to (st' := ⟨[(2, .v (.bool false))], [], 8, []⟩) [] (by decide) rfl rfl (⟨⟨_, rfl, .one .v⟩, trivial⟩) (trivial)) ?_
    refine T.ret ?_
    exact RetOk.same [.v (.bool false)] ⟨rfl, trivial⟩ rfl rfl rfl
set_option maxHeartbeats 4000000 in
theorem ref6_square_pc (al : Bool) (k : Nat) (a0 : Int) (a1 : Int) (o : Int) (H : ref6_square k a0 a1 = some o) : PC Try.prog al 90 [.v (.int .i64 a0), .v (.int .i64 a1)] (.v (.int .i64 o)) := by
  unfold ref6_square at H
  refine PC.of_T Try.func90 rfl rfl (n := 12) rfl rfl (.inr rfl) ?_
  intro base B w0
  refine T.st (st' := ⟨[(0, .v (.int .i64 a0)), (1, .v (.int .i64 a1))], [], 0, []⟩) rfl ?_
  refine T.seq ?_
  refine T.region ?_
  refine RunT.ot0 (x := .v (.int .i64 0)) rfl rfl rfl rfl (.assignX rfl) ?_
  refine RunT.nil ?_
  refine T.seq ?_
  refine T.region ?_
  refine RunT.ot0 (x := .v (.int .i64 a0)) rfl rfl rfl rfl (.moveX rfl) ?_
  refine RunT.ot0 (x := .v (.int .i64 a1)) rfl rfl rfl rfl (.moveX rfl) ?_
  refine RunT.ot0 (x := .v (.int .i64 (wr (a0 - a1)))) rfl rfl rfl rfl (.bin rfl rfl (fun w => b_subw w) rfl) ?_
  refine RunT.ot0 (x := .v (.int .i64 a0)) rfl rfl rfl rfl (.moveX rfl) ?_
  refine RunT.ot0 (x := .v (.int .i64 a1)) rfl rfl rfl rfl (.moveX rfl) ?_
  refine RunT.ot0 (x := .v (.int .i64 (wr (a0 - a1)))) rfl rfl rfl rfl (.bin rfl rfl (fun w => b_subw w) rfl) ?_
  refine RunT.ot0 (x := .v (.int .i64 (wr ((wr (a0 - a1)) * (wr (a0 - a1)))))) rfl rfl rfl rfl (.bin rfl rfl (fun w => b_mulw w) rfl) ?_
  refine RunT.ot0 (x := .v (.int .i64 (wr ((wr (a0 - a1)) * (wr (a0 - a1)))))) rfl rfl rfl rfl (.assignX rfl) ?_
  refine RunT.nil ?_
  obtain rfl := si H
  refine T.sub (sub_to (st' := ⟨[(4, .v (.int .i64 (wr ((wr (a0 - a1)) * (wr (a0 - a1))))))], [], 8, []⟩) [] (by decide) rfl rfl (⟨⟨_, rfl, .one .v⟩, trivial⟩) (trivial)) ?_
  refine T.ret ?_
  exact RetOk.same [.v (.int .i64 (wr ((wr (a0 - a1)) * (wr (a0 - a1)))))] ⟨rfl, trivial⟩ rfl rfl rfl
set_option maxHeartbeats 4000000 in
theorem ref6_Far_pc (al : Bool) (k : Nat) (a0 : Seat) (a1 : Seat) (o : Int) (H : ref6_Far k a0 a1 = some o) : PC Try.prog al 31 [.agg [.v (.int .i64 a0.Row), .v (.int .i64 a0.X), .v (.int .i64 a0.Y), .v (.int .i64 a0.Kind)], .agg [.v (.int .i64 a1.Row), .v (.int .i64 a1.X), .v (.int .i64 a1.Y), .v (.int .i64 a1.Kind)]] (.v (.int .i64 o)) := by
  unfold ref6_Far at H
  refine PC.of_T Try.func31 rfl rfl (n := 38) rfl rfl (.inr rfl) ?_
  intro base B w0
  refine T.st (st' := ⟨[(0, .agg [.v (.int .i64 a0.Row), .v (.int .i64 a0.X), .v (.int .i64 a0.Y), .v (.int .i64 a0.Kind)]), (1, .agg [.v (.int .i64 a1.Row), .v (.int .i64 a1.X), .v (.int .i64 a1.Y), .v (.int .i64 a1.Kind)])], [], 0, []⟩) rfl ?_
  refine T.seq ?_
  refine T.region ?_
  refine RunT.ot1 (x := .ptr 0 0) (p0 := (0, some (.box [.v (.int .i64 a0.Row), .v (.int .i64 a0.X), .v (.int .i64 a0.Y), .v (.int .i64 a0.Kind)]))) (n' := 8) rfl rfl rfl rfl (.boxX rfl rfl rfl) rfl ?_
  refine RunT.ot1 (x := .ptr 8 0) (p0 := (8, some (.box [.v (.int .i64 a1.Row), .v (.int .i64 a1.X), .v (.int .i64 a1.Y), .v (.int .i64 a1.Kind)]))) (n' := 16) rfl rfl rfl rfl (.boxX rfl rfl rfl) rfl ?_
  refine RunT.ot0 (x := .v (.int .i64 0)) rfl rfl rfl rfl (.assignX rfl) ?_
  refine RunT.nil ?_
  refine T.seq ?_
  refine T.seq ?_
  refine T.region ?_
  refine RunT.ot0 (x := .ptr 0 1) rfl rfl rfl rfl (.fieldPX fl28_1 rfl rfl) ?_
  refine RunT.ot0 (x := .v (.int .i64 a0.X)) rfl rfl rfl rfl (.loadP ty3 rfl rfl rfl) ?_
  obtain ⟨r1, h2, H⟩ := bs H
  refine RunT.ot0 (x := .v (.bool r1)) rfl rfl rfl rfl (.callp (ref6_coord_pc false k a0.X r1 h2) rfl ⟨(.one .v), trivial⟩ rfl rfl rfl) ?_
  refine RunT.ot0 (x := .v (.bool (!r1))) rfl rfl rfl rfl (.un rfl (fun w => u_not w) rfl) ?_
  refine RunT.ot0 (x := .v (.bool (!r1))) rfl rfl rfl rfl (.moveX rfl) ?_
  refine RunT.cases (t := 9) (c := !r1) rfl (fun g3 => ?_) (fun g3 => ?_)
  · replace H := ct H g3
    refine RunT.xn rfl rfl rfl (bo g3) rfl rfl ?_
    refine RunT.xn rfl rfl rfl (bo g3) rfl rfl ?_
    refine RunT.xn rfl rfl rfl (bo g3) rfl rfl ?_
    refine RunT.xn rfl rfl rfl (bo g3) rfl rfl ?_
    refine RunT.ot0 (x := .v (.bool true)) rfl rfl rfl rfl (.pickT (bo g3) rfl) ?_
    refine RunT.ot0 (x := .v (.bool true)) rfl rfl rfl rfl (.moveX rfl) ?_
    refine RunT.xn rfl rfl rfl rfl rfl rfl ?_
    refine RunT.xn rfl rfl rfl rfl rfl rfl ?_
    refine RunT.xn rfl rfl rfl rfl rfl rfl ?_
    refine RunT.xn rfl rfl rfl rfl rfl rfl ?_
    refine RunT.ot0 (x := .v (.bool true)) rfl rfl rfl rfl (.pickT rfl rfl) ?_
    refine RunT.ot0 (x := .v (.bool true)) rfl rfl rfl rfl (.moveX rfl) ?_
    refine RunT.xn rfl rfl rfl rfl rfl rfl ?_
    refine RunT.xn rfl rfl rfl rfl rfl rfl ?_
    refine RunT.xn rfl rfl rfl rfl rfl rfl ?_
    refine RunT.xn rfl rfl rfl rfl rfl rfl ?_
    refine RunT.ot0 (x := .v (.bool true)) rfl rfl rfl rfl (.pickT rfl rfl) ?_
    refine RunT.nil ?_
    refine T.condT rfl ?_
    refine T.seq ?_
    refine T.region ?_
    refine RunT.ot0 (x := .v (.int .i64 0)) rfl rfl rfl rfl (.assignX rfl) ?_
    refine RunT.nil ?_
    obtain rfl := si H
    refine T.sub (sub_to (st' := ⟨[(4, .v (.int .i64 0))], [], 8, []⟩) [] (by decide) rfl rfl (⟨⟨_, rfl, .one .v⟩, trivial⟩) (trivial)) ?_
    refine T.ret ?_
    exact RetOk.same [.v (.int .i64 0)] ⟨rfl, trivial⟩ rfl rfl rfl
  · replace H := cf H g3
    refine RunT.gt0 (x := .ptr 0 2) rfl rfl rfl (bo g3) rfl rfl (.fieldPX fl28_2 rfl rfl) ?_
    refine RunT.gt0 (x := .v (.int .i64 a0.Y)) rfl rfl rfl (bo g3) rfl rfl (.loadP ty3 rfl rfl rfl) ?_
    obtain ⟨r4, h5, H⟩ := bs H
    refine RunT.gt0 (x := .v (.bool r4)) rfl rfl rfl (bo g3) rfl rfl (.callp (ref6_coord_pc false k a0.Y r4 h5) rfl ⟨(.one .v), trivial⟩ rfl rfl rfl) ?_
    refine RunT.gt0 (x := .v (.bool (!r4))) rfl rfl rfl (bo g3) rfl rfl (.un rfl (fun w => u_not w) rfl) ?_
    refine RunT.ot0 (x := .v (.bool (!r4))) rfl rfl rfl rfl (.pickF (bo g3) rfl) ?_
    refine RunT.ot0 (x := .v (.bool (!r4))) rfl rfl rfl rfl (.moveX rfl) ?_
    refine RunT.cases (t := 15) (c := !r4) rfl (fun g6 => ?_) (fun g6 => ?_)
    · replace H := ct H g6
      refine RunT.xn rfl rfl rfl (bo g6) rfl rfl ?_
      refine RunT.xn rfl rfl rfl (bo g6) rfl rfl ?_
      refine RunT.xn rfl rfl rfl (bo g6) rfl rfl ?_
      refine RunT.xn rfl rfl rfl (bo g6) rfl rfl ?_
      refine RunT.ot0 (x := .v (.bool true)) rfl rfl rfl rfl (.pickT (bo g6) rfl) ?_
      refine RunT.ot0 (x := .v (.bool true)) rfl rfl rfl rfl (.moveX rfl) ?_
      refine RunT.xn rfl rfl rfl rfl rfl rfl ?_
      refine RunT.xn rfl rfl rfl rfl rfl rfl ?_
      refine RunT.xn rfl rfl rfl rfl rfl rfl ?_
      refine RunT.xn rfl rfl rfl rfl rfl rfl ?_
      refine RunT.ot0 (x := .v (.bool true)) rfl rfl rfl rfl (.pickT rfl rfl) ?_
      refine RunT.nil ?_
      refine T.condT rfl ?_
      refine T.seq ?_
      refine T.sub (sub_pick [] [] (st' := ⟨[], [], 16, []⟩) rfl rfl rfl rfl rfl) ?_
      refine T.region ?_
      refine RunT.ot0 (x := .v (.int .i64 0)) rfl rfl rfl rfl (.assignX rfl) ?_
      refine RunT.nil ?_
      obtain rfl := si H
      refine T.sub (sub_to (st' := ⟨[(4, .v (.int .i64 0))], [], 8, []⟩) [] (by decide) rfl rfl (⟨⟨_, rfl, .one .v⟩, trivial⟩) (trivial)) ?_
      refine T.ret ?_
      exact RetOk.same [.v (.int .i64 0)] ⟨rfl, trivial⟩ rfl rfl rfl
    · replace H := cf H g6
      refine RunT.gt0 (x := .ptr 8 1) rfl rfl rfl (bo g6) rfl rfl (.fieldPX fl28_1 rfl rfl) ?_
      refine RunT.gt0 (x := .v (.int .i64 a1.X)) rfl rfl rfl (bo g6) rfl rfl (.loadP ty3 rfl rfl rfl) ?_
      obtain ⟨r7, h8, H⟩ := bs H
      refine RunT.gt0 (x := .v (.bool r7)) rfl rfl rfl (bo g6) rfl rfl (.callp (ref6_coord_pc false k a1.X r7 h8) rfl ⟨(.one .v), trivial⟩ rfl rfl rfl) ?_
      refine RunT.gt0 (x := .v (.bool (!r7))) rfl rfl rfl (bo g6) rfl rfl (.un rfl (fun w => u_not w) rfl) ?_
      refine RunT.ot0 (x := .v (.bool (!r7))) rfl rfl rfl rfl (.pickF (bo g6) rfl) ?_
      refine RunT.ot0 (x := .v (.bool (!r7))) rfl rfl rfl rfl (.moveX rfl) ?_
      refine RunT.cases (t := 21) (c := !r7) rfl (fun g9 => ?_) (fun g9 => ?_)
      · replace H := ct H g9
        refine RunT.xn rfl rfl rfl (bo g9) rfl rfl ?_
        refine RunT.xn rfl rfl rfl (bo g9) rfl rfl ?_
        refine RunT.xn rfl rfl rfl (bo g9) rfl rfl ?_
        refine RunT.xn rfl rfl rfl (bo g9) rfl rfl ?_
        refine RunT.ot0 (x := .v (.bool true)) rfl rfl rfl rfl (.pickT (bo g9) rfl) ?_
        refine RunT.nil ?_
        refine T.condT rfl ?_
        refine T.seq ?_
        refine T.region ?_
        refine RunT.ot0 (x := .v (.int .i64 0)) rfl rfl rfl rfl (.assignX rfl) ?_
        refine RunT.nil ?_
        obtain rfl := si H
        refine T.sub (sub_to (st' := ⟨[(4, .v (.int .i64 0))], [], 8, []⟩) [] (by decide) rfl rfl (⟨⟨_, rfl, .one .v⟩, trivial⟩) (trivial)) ?_
        refine T.ret ?_
        exact RetOk.same [.v (.int .i64 0)] ⟨rfl, trivial⟩ rfl rfl rfl
      · replace H := cf H g9
        refine RunT.gt0 (x := .ptr 8 2) rfl rfl rfl (bo g9) rfl rfl (.fieldPX fl28_2 rfl rfl) ?_
        refine RunT.gt0 (x := .v (.int .i64 a1.Y)) rfl rfl rfl (bo g9) rfl rfl (.loadP ty3 rfl rfl rfl) ?_
        obtain ⟨r10, h11, H⟩ := bs H
        refine RunT.gt0 (x := .v (.bool r10)) rfl rfl rfl (bo g9) rfl rfl (.callp (ref6_coord_pc false k a1.Y r10 h11) rfl ⟨(.one .v), trivial⟩ rfl rfl rfl) ?_
        refine RunT.gt0 (x := .v (.bool (!r10))) rfl rfl rfl (bo g9) rfl rfl (.un rfl (fun w => u_not w) rfl) ?_
        refine RunT.ot0 (x := .v (.bool (!r10))) rfl rfl rfl rfl (.pickF (bo g9) rfl) ?_
        refine RunT.nil ?_
        refine T.cond2 (t := !r10) rfl (fun c12 => ?_) (fun c12 => ?_)
        · replace H := ct H c12
          refine T.seq ?_
          refine T.region ?_
          refine RunT.ot0 (x := .v (.int .i64 0)) rfl rfl rfl rfl (.assignX rfl) ?_
          refine RunT.nil ?_
          obtain rfl := si H
          refine T.sub (sub_to (st' := ⟨[(4, .v (.int .i64 0))], [], 8, []⟩) [] (by decide) rfl rfl (⟨⟨_, rfl, .one .v⟩, trivial⟩) (trivial)) ?_
          refine T.ret ?_
          exact RetOk.same [.v (.int .i64 0)] ⟨rfl, trivial⟩ rfl rfl rfl
        · replace H := cf H c12
          refine T.skip ?_
          refine T.seq ?_
          refine T.draw (wr := []) mixed rfl rfl ?_ rfl
          refine RunD.ot0 (x := .ptr 0 1) rfl rfl rfl rfl (.fieldPX fl28_1 rfl rfl) rfl ?_
          refine RunD.ot0 (x := .v (.int .i64 a0.X)) rfl rfl rfl rfl (.loadP ty3 rfl rfl rfl) rfl ?_
          refine RunD.ot0 (x := .ptr 8 1) rfl rfl rfl rfl (.fieldPX fl28_1 rfl rfl) rfl ?_
          refine RunD.ot0 (x := .v (.int .i64 a1.X)) rfl rfl rfl rfl (.loadP ty3 rfl rfl rfl) rfl ?_
          obtain ⟨r17, h18, H⟩ := bs H
          refine RunD.ot0 (x := .v (.int .i64 r17)) rfl rfl rfl rfl (.callp (ref6_square_pc false k a0.X a1.X r17 h18) rfl ⟨(.one .v), (.one .v), trivial⟩ rfl rfl rfl) rfl ?_
          refine RunD.ot0 (x := .ptr 0 2) rfl rfl rfl rfl (.fieldPX fl28_2 rfl rfl) rfl ?_
          refine RunD.ot0 (x := .v (.int .i64 a0.Y)) rfl rfl rfl rfl (.loadP ty3 rfl rfl rfl) rfl ?_
          refine RunD.ot0 (x := .ptr 8 2) rfl rfl rfl rfl (.fieldPX fl28_2 rfl rfl) rfl ?_
          refine RunD.ot0 (x := .v (.int .i64 a1.Y)) rfl rfl rfl rfl (.loadP ty3 rfl rfl rfl) rfl ?_
          obtain ⟨r19, h20, H⟩ := bs H
          refine RunD.ot0 (x := .v (.int .i64 r19)) rfl rfl rfl rfl (.callp (ref6_square_pc false k a0.Y a1.Y r19 h20) rfl ⟨(.one .v), (.one .v), trivial⟩ rfl rfl rfl) rfl ?_
          refine RunD.ot0 (x := .v (.int .i64 (wr (r17 + r19)))) rfl rfl rfl rfl (.bin rfl rfl (fun w => b_addw w) rfl) rfl ?_
          refine RunD.ot0 (x := .v (.int .i64 (wr (r17 + r19)))) rfl rfl rfl rfl (.assignX rfl) rfl ?_
          refine RunD.nil (by kernel_rfl) ⟨rfl, rfl, ?_⟩
          obtain rfl := si H
          refine T.sub (sub_to (st' := ⟨[(4, .v (.int .i64 (wr (r17 + r19))))], [], 8, []⟩) [] (by decide) rfl rfl (⟨⟨_, rfl, .one .v⟩, trivial⟩) (trivial)) ?_
          refine T.ret ?_
          exact RetOk.same [.v (.int .i64 (wr (r17 + r19)))] ⟨rfl, trivial⟩ rfl rfl rfl
set_option maxHeartbeats 4000000 in
theorem ref6_seat_pc (al : Bool) (k : Nat) (a0 : Venue) (a1 : Int) (o : Bool) (H : ref6_seat k a0 a1 = some o) : PC Try.prog al 106 [.agg [.lst (List.map eSeat a0.Seats), .v (.int .i64 a0.Gap), .v (.int .i64 a0.Radius), .lst (List.map eI a0.Kills), .lst (List.map ePole a0.Poles)], .v (.int .i64 a1)] (.v (.bool o)) := by
  unfold ref6_seat at H
  refine PC.of_T Try.func106 rfl rfl (n := 14) rfl rfl (.inr rfl) ?_
  intro base B w0
  refine T.st (st' := ⟨[(0, .agg [.lst (List.map eSeat a0.Seats), .v (.int .i64 a0.Gap), .v (.int .i64 a0.Radius), .lst (List.map eI a0.Kills), .lst (List.map ePole a0.Poles)]), (1, .v (.int .i64 a1))], [], 0, []⟩) rfl ?_
  refine T.seq ?_
  refine T.region ?_
  refine RunT.ot1 (x := .ptr 0 0) (p0 := (0, some (.box [.lst (List.map eSeat a0.Seats), .v (.int .i64 a0.Gap), .v (.int .i64 a0.Radius), .lst (List.map eI a0.Kills), .lst (List.map ePole a0.Poles)]))) (n' := 8) rfl rfl rfl rfl (.boxX rfl rfl rfl) rfl ?_
  refine RunT.ot0 (x := .v (.bool false)) rfl rfl rfl rfl (.assignX rfl) ?_
  refine RunT.nil ?_
  refine T.seq ?_
  refine T.region ?_
  refine RunT.ot0 (x := .v (.int .i64 a1)) rfl rfl rfl rfl (.moveX rfl) ?_
  refine RunT.ot0 (x := .v (.bool (decide (0 ≤ a1)))) rfl rfl rfl rfl (.bin rfl rfl (fun w => b_geq w) rfl) ?_
  refine RunT.ot0 (x := .v (.bool (decide (0 ≤ a1)))) rfl rfl rfl rfl (.moveX rfl) ?_
  refine RunT.cases (t := 7) (c := decide (0 ≤ a1)) rfl (fun g1 => ?_) (fun g1 => ?_)
  · replace H := ct H g1
    refine RunT.gt0 (x := .v (.int .i64 a1)) rfl rfl rfl (bo g1) rfl rfl (.moveX rfl) ?_
    refine RunT.gt0 (x := .ptr 0 0) rfl rfl rfl (bo g1) rfl rfl (.fieldPX fl26_0 rfl rfl) ?_
    refine RunT.gt0 (x := .lst (List.map eSeat a0.Seats)) rfl rfl rfl (bo g1) rfl rfl (.loadP ty22 rfl rfl rfl) ?_
    refine RunT.gt0 (x := .v (.int .i64 (a0.Seats.length : Int))) rfl rfl rfl (bo g1) rfl rfl (.lenLm Try.underlying22 rfl rfl) ?_
    refine RunT.gt0 (x := .v (.bool (decide (a1 < (a0.Seats.length : Int))))) rfl rfl rfl (bo g1) rfl rfl (.bin rfl rfl (fun w => b_lss w) rfl) ?_
    refine RunT.ot0 (x := .v (.bool (decide (a1 < (a0.Seats.length : Int))))) rfl rfl rfl rfl (.pickT (bo g1) rfl) ?_
    refine RunT.ot0 (x := .v (.bool (decide (a1 < (a0.Seats.length : Int))))) rfl rfl rfl rfl (.assignX rfl) ?_
    refine RunT.nil ?_
    obtain rfl := si H
    refine T.sub (sub_to (st' := ⟨[(4, .v (.bool (decide (a1 < (a0.Seats.length : Int)))))], [], 8, []⟩) [] (by decide) rfl rfl (⟨⟨_, rfl, .one .v⟩, trivial⟩) (trivial)) ?_
    refine T.ret ?_
    exact RetOk.same [.v (.bool (decide (a1 < (a0.Seats.length : Int))))] ⟨rfl, trivial⟩ rfl rfl rfl
  · replace H := cf H g1
    refine RunT.xn rfl rfl rfl (bo g1) rfl rfl ?_
    refine RunT.xn rfl rfl rfl (bo g1) rfl rfl ?_
    refine RunT.xn rfl rfl rfl (bo g1) rfl rfl ?_
    refine RunT.xn rfl rfl rfl (bo g1) rfl rfl ?_
    refine RunT.xn rfl rfl rfl (bo g1) rfl rfl ?_
    refine RunT.ot0 (x := .v (.bool false)) rfl rfl rfl rfl (.pickF (bo g1) rfl) ?_
    refine RunT.ot0 (x := .v (.bool false)) rfl rfl rfl rfl (.assignX rfl) ?_
    refine RunT.nil ?_
    obtain rfl := si H
    refine T.sub (sub_to (st' := ⟨[(4, .v (.bool false))], [], 8, []⟩) [] (by decide) rfl rfl (⟨⟨_, rfl, .one .v⟩, trivial⟩) (trivial)) ?_
    refine T.ret ?_
    exact RetOk.same [.v (.bool false)] ⟨rfl, trivial⟩ rfl rfl rfl
set_option maxHeartbeats 4000000 in
theorem ref6_clash_pc (al : Bool) (k : Nat) (a0 : Venue) (a1 : Int) (a2 : Int) (o : Bool) (H : ref6_clash k a0 a1 a2 = some o) : PC Try.prog al 94 [.agg [.lst (List.map eSeat a0.Seats), .v (.int .i64 a0.Gap), .v (.int .i64 a0.Radius), .lst (List.map eI a0.Kills), .lst (List.map ePole a0.Poles)], .v (.int .i64 a1), .v (.int .i64 a2)] (.v (.bool o)) := by
  unfold ref6_clash at H
  refine PC.of_T Try.func94 rfl rfl (n := 37) rfl rfl (.inr rfl) ?_
  intro base B w0
  refine T.st (st' := ⟨[(0, .agg [.lst (List.map eSeat a0.Seats), .v (.int .i64 a0.Gap), .v (.int .i64 a0.Radius), .lst (List.map eI a0.Kills), .lst (List.map ePole a0.Poles)]), (1, .v (.int .i64 a1)), (2, .v (.int .i64 a2))], [], 0, []⟩) rfl ?_
  refine T.seq ?_
  refine T.region ?_
  refine RunT.ot1 (x := .ptr 0 0) (p0 := (0, some (.box [.lst (List.map eSeat a0.Seats), .v (.int .i64 a0.Gap), .v (.int .i64 a0.Radius), .lst (List.map eI a0.Kills), .lst (List.map ePole a0.Poles)]))) (n' := 8) rfl rfl rfl rfl (.boxX rfl rfl rfl) rfl ?_
  refine RunT.ot0 (x := .v (.bool false)) rfl rfl rfl rfl (.assignX rfl) ?_
  refine RunT.nil ?_
  refine T.seq ?_
  refine T.draw (wr := []) mixed rfl rfl ?_ rfl
  refine RunD.ot0 (x := .agg [.lst (List.map eSeat a0.Seats), .v (.int .i64 a0.Gap), .v (.int .i64 a0.Radius), .lst (List.map eI a0.Kills), .lst (List.map ePole a0.Poles)]) rfl rfl rfl rfl (.loadP ty26 rfl rfl rfl) rfl ?_
  refine RunD.ot0 (x := .v (.int .i64 a1)) rfl rfl rfl rfl (.moveX rfl) rfl ?_
  obtain ⟨r16, h17, H⟩ := bs H
  refine RunD.ot0 (x := .v (.bool r16)) rfl rfl rfl rfl (.callp (ref6_seat_pc false k a0 a1 r16 h17) rfl ⟨(.agg' ⟨.lst, .v, .v, .lst, .lst, trivial⟩), (.one .v), trivial⟩ rfl rfl rfl) rfl ?_
  refine RunD.ot0 (x := .v (.bool r16)) rfl rfl rfl rfl (.moveX rfl) rfl ?_
  refine RunD.cases (t := 10) (c := r16) rfl (fun g18 => ?_) (fun g18 => ?_)
  · replace H := ct H g18
    refine RunD.gt0 (x := .agg [.lst (List.map eSeat a0.Seats), .v (.int .i64 a0.Gap), .v (.int .i64 a0.Radius), .lst (List.map eI a0.Kills), .lst (List.map ePole a0.Poles)]) rfl rfl rfl (bo g18) rfl rfl (.loadP ty26 rfl rfl rfl) rfl ?_
    refine RunD.gt0 (x := .v (.int .i64 a2)) rfl rfl rfl (bo g18) rfl rfl (.moveX rfl) rfl ?_
    obtain ⟨r19, h20, H⟩ := bs H
    refine RunD.gt0 (x := .v (.bool r19)) rfl rfl rfl (bo g18) rfl rfl (.callp (ref6_seat_pc false k a0 a2 r19 h20) rfl ⟨(.agg' ⟨.lst, .v, .v, .lst, .lst, trivial⟩), (.one .v), trivial⟩ rfl rfl rfl) rfl ?_
    refine RunD.ot0 (x := .v (.bool r19)) rfl rfl rfl rfl (.pickT (bo g18) rfl) rfl ?_
    refine RunD.ot0 (x := .v (.bool r19)) rfl rfl rfl rfl (.moveX rfl) rfl ?_
    refine RunD.cases (t := 15) (c := r19) rfl (fun g21 => ?_) (fun g21 => ?_)
    · replace H := ct H g21
      refine RunD.gt0 (x := .v (.int .i64 a1)) rfl rfl rfl (bo g21) rfl rfl (.moveX rfl) rfl ?_
      refine RunD.gt0 (x := .v (.int .i64 a2)) rfl rfl rfl (bo g21) rfl rfl (.moveX rfl) rfl ?_
      refine RunD.gt0 (x := .v (.bool (!decide (a1 = a2)))) rfl rfl rfl (bo g21) rfl rfl (.bin rfl rfl (fun w => b_neq w) rfl) rfl ?_
      refine RunD.ot0 (x := .v (.bool (!decide (a1 = a2)))) rfl rfl rfl rfl (.pickT (bo g21) rfl) rfl ?_
      refine RunD.ot0 (x := .v (.bool (!decide (a1 = a2)))) rfl rfl rfl rfl (.moveX rfl) rfl ?_
      refine RunD.cases (t := 20) (c := !decide (a1 = a2)) rfl (fun g22 => ?_) (fun g22 => ?_)
      · replace H := ct H g22
        refine RunD.gt0 (x := .ptr 0 0) rfl rfl rfl (bo g22) rfl rfl (.fieldPX fl26_0 rfl rfl) rfl ?_
        refine RunD.gt0 (x := .lst (List.map eSeat a0.Seats)) rfl rfl rfl (bo g22) rfl rfl (.loadP ty22 rfl rfl rfl) rfl ?_
        refine RunD.gt0 (x := .v (.int .i64 a1)) rfl rfl rfl (bo g22) rfl rfl (.moveX rfl) rfl ?_
        obtain ⟨y23, h24, H⟩ := bs H
        refine RunD.gt0 (x := .rptr [.v (.int .i64 y23.Row), .v (.int .i64 y23.X), .v (.int .i64 y23.Y), .v (.int .i64 y23.Kind)]) rfl rfl rfl (bo g22) rfl rfl (.idxLX h24 enc_Seat sl22 rfl rfl rfl) rfl ?_
        refine RunD.gt0 (x := .agg [.v (.int .i64 y23.Row), .v (.int .i64 y23.X), .v (.int .i64 y23.Y), .v (.int .i64 y23.Kind)]) rfl rfl rfl (bo g22) rfl rfl (.loadR ty28 rfl rfl) rfl ?_
        refine RunD.gt0 (x := .ptr 0 0) rfl rfl rfl (bo g22) rfl rfl (.fieldPX fl26_0 rfl rfl) rfl ?_
        refine RunD.gt0 (x := .lst (List.map eSeat a0.Seats)) rfl rfl rfl (bo g22) rfl rfl (.loadP ty22 rfl rfl rfl) rfl ?_
        refine RunD.gt0 (x := .v (.int .i64 a2)) rfl rfl rfl (bo g22) rfl rfl (.moveX rfl) rfl ?_
        obtain ⟨y25, h26, H⟩ := bs H
        refine RunD.gt0 (x := .rptr [.v (.int .i64 y25.Row), .v (.int .i64 y25.X), .v (.int .i64 y25.Y), .v (.int .i64 y25.Kind)]) rfl rfl rfl (bo g22) rfl rfl (.idxLX h26 enc_Seat sl22 rfl rfl rfl) rfl ?_
        refine RunD.gt0 (x := .agg [.v (.int .i64 y25.Row), .v (.int .i64 y25.X), .v (.int .i64 y25.Y), .v (.int .i64 y25.Kind)]) rfl rfl rfl (bo g22) rfl rfl (.loadR ty28 rfl rfl) rfl ?_
        obtain ⟨r27, h28, H⟩ := bs H
        refine RunD.gt0 (x := .v (.int .i64 r27)) rfl rfl rfl (bo g22) rfl rfl (.callp (ref6_Far_pc false k y23 y25 r27 h28) rfl ⟨(.agg' ⟨.v, .v, .v, .v, trivial⟩), (.agg' ⟨.v, .v, .v, .v, trivial⟩), trivial⟩ rfl rfl rfl) rfl ?_
        refine RunD.gt0 (x := .ptr 0 2) rfl rfl rfl (bo g22) rfl rfl (.fieldPX fl26_2 rfl rfl) rfl ?_
        refine RunD.gt0 (x := .v (.int .i64 a0.Radius)) rfl rfl rfl (bo g22) rfl rfl (.loadP ty3 rfl rfl rfl) rfl ?_
        obtain ⟨r29, h30, H⟩ := bs H
        refine RunD.gt0 (x := .v (.int .i64 r29)) rfl rfl rfl (bo g22) rfl rfl (.callp (ref6_square_pc false k a0.Radius 0 r29 h30) rfl ⟨(.one .v), (.one .v), trivial⟩ rfl rfl rfl) rfl ?_
        refine RunD.gt0 (x := .v (.bool (decide (r27 < r29)))) rfl rfl rfl (bo g22) rfl rfl (.bin rfl rfl (fun w => b_lss w) rfl) rfl ?_
        refine RunD.ot0 (x := .v (.bool (decide (r27 < r29)))) rfl rfl rfl rfl (.pickT (bo g22) rfl) rfl ?_
        refine RunD.ot0 (x := .v (.bool (decide (r27 < r29)))) rfl rfl rfl rfl (.assignX rfl) rfl ?_
        refine RunD.nil (by kernel_rfl) ⟨rfl, rfl, ?_⟩
        obtain rfl := si H
        refine T.sub (sub_to (st' := ⟨[(6, .v (.bool (decide (r27 < r29))))], [], 8, []⟩) [] (by decide) rfl rfl (⟨⟨_, rfl, .one .v⟩, trivial⟩) (trivial)) ?_
        refine T.ret ?_
        exact RetOk.same [.v (.bool (decide (r27 < r29)))] ⟨rfl, trivial⟩ rfl rfl rfl
      · replace H := cf H g22
        refine RunD.xn rfl rfl rfl (bo g22) rfl rfl ?_
        refine RunD.xn rfl rfl rfl (bo g22) rfl rfl ?_
        refine RunD.xn rfl rfl rfl (bo g22) rfl rfl ?_
        refine RunD.xn rfl rfl rfl (bo g22) rfl rfl ?_
        refine RunD.xn rfl rfl rfl (bo g22) rfl rfl ?_
        refine RunD.xn rfl rfl rfl (bo g22) rfl rfl ?_
        refine RunD.xn rfl rfl rfl (bo g22) rfl rfl ?_
        refine RunD.xn rfl rfl rfl (bo g22) rfl rfl ?_
        refine RunD.xn rfl rfl rfl (bo g22) rfl rfl ?_
        refine RunD.xn rfl rfl rfl (bo g22) rfl rfl ?_
        refine RunD.xn rfl rfl rfl (bo g22) rfl rfl ?_
        refine RunD.xn rfl rfl rfl (bo g22) rfl rfl ?_
        refine RunD.xn rfl rfl rfl (bo g22) rfl rfl ?_
        refine RunD.xn rfl rfl rfl (bo g22) rfl rfl ?_
        refine RunD.xn rfl rfl rfl (bo g22) rfl rfl ?_
        refine RunD.ot0 (x := .v (.bool false)) rfl rfl rfl rfl (.pickF (bo g22) rfl) rfl ?_
        refine RunD.ot0 (x := .v (.bool false)) rfl rfl rfl rfl (.assignX rfl) rfl ?_
        refine RunD.nil (by kernel_rfl) ⟨rfl, rfl, ?_⟩
        obtain rfl := si H
        refine T.sub (sub_to (st' := ⟨[(6, .v (.bool false))], [], 8, []⟩) [] (by decide) rfl rfl (⟨⟨_, rfl, .one .v⟩, trivial⟩) (trivial)) ?_
        refine T.ret ?_
        exact RetOk.same [.v (.bool false)] ⟨rfl, trivial⟩ rfl rfl rfl
    · replace H := cf H g21
      refine RunD.xn rfl rfl rfl (bo g21) rfl rfl ?_
      refine RunD.xn rfl rfl rfl (bo g21) rfl rfl ?_
      refine RunD.xn rfl rfl rfl (bo g21) rfl rfl ?_
      refine RunD.ot0 (x := .v (.bool false)) rfl rfl rfl rfl (.pickF (bo g21) rfl) rfl ?_
      refine RunD.ot0 (x := .v (.bool false)) rfl rfl rfl rfl (.moveX rfl) rfl ?_
      refine RunD.xn rfl rfl rfl rfl rfl rfl ?_
      refine RunD.xn rfl rfl rfl rfl rfl rfl ?_
      refine RunD.xn rfl rfl rfl rfl rfl rfl ?_
      refine RunD.xn rfl rfl rfl rfl rfl rfl ?_
      refine RunD.xn rfl rfl rfl rfl rfl rfl ?_
      refine RunD.xn rfl rfl rfl rfl rfl rfl ?_
      refine RunD.xn rfl rfl rfl rfl rfl rfl ?_
      refine RunD.xn rfl rfl rfl rfl rfl rfl ?_
      refine RunD.xn rfl rfl rfl rfl rfl rfl ?_
      refine RunD.xn rfl rfl rfl rfl rfl rfl ?_
      refine RunD.xn rfl rfl rfl rfl rfl rfl ?_
      refine RunD.xn rfl rfl rfl rfl rfl rfl ?_
      refine RunD.xn rfl rfl rfl rfl rfl rfl ?_
      refine RunD.xn rfl rfl rfl rfl rfl rfl ?_
      refine RunD.xn rfl rfl rfl rfl rfl rfl ?_
      refine RunD.ot0 (x := .v (.bool false)) rfl rfl rfl rfl (.pickF rfl rfl) rfl ?_
      refine RunD.ot0 (x := .v (.bool false)) rfl rfl rfl rfl (.assignX rfl) rfl ?_
      refine RunD.nil (by kernel_rfl) ⟨rfl, rfl, ?_⟩
      obtain rfl := si H
      refine T.sub (sub_to (st' := ⟨[(6, .v (.bool false))], [], 8, []⟩) [] (by decide) rfl rfl (⟨⟨_, rfl, .one .v⟩, trivial⟩) (trivial)) ?_
      refine T.ret ?_
      exact RetOk.same [.v (.bool false)] ⟨rfl, trivial⟩ rfl rfl rfl
  · replace H := cf H g18
    refine RunD.xn rfl rfl rfl (bo g18) rfl rfl ?_
    refine RunD.xn rfl rfl rfl (bo g18) rfl rfl ?_
    refine RunD.xn rfl rfl rfl (bo g18) rfl rfl ?_
    refine RunD.ot0 (x := .v (.bool false)) rfl rfl rfl rfl (.pickF (bo g18) rfl) rfl ?_
    refine RunD.ot0 (x := .v (.bool false)) rfl rfl rfl rfl (.moveX rfl) rfl ?_
    refine RunD.xn rfl rfl rfl rfl rfl rfl ?_
    refine RunD.xn rfl rfl rfl rfl rfl rfl ?_
    refine RunD.xn rfl rfl rfl rfl rfl rfl ?_
    refine RunD.ot0 (x := .v (.bool false)) rfl rfl rfl rfl (.pickF rfl rfl) rfl ?_
    refine RunD.ot0 (x := .v (.bool false)) rfl rfl rfl rfl (.moveX rfl) rfl ?_
    refine RunD.xn rfl rfl rfl rfl rfl rfl ?_
    refine RunD.xn rfl rfl rfl rfl rfl rfl ?_
    refine RunD.xn rfl rfl rfl rfl rfl rfl ?_
    refine RunD.xn rfl rfl rfl rfl rfl rfl ?_
    refine RunD.xn rfl rfl rfl rfl rfl rfl ?_
    refine RunD.xn rfl rfl rfl rfl rfl rfl ?_
    refine RunD.xn rfl rfl rfl rfl rfl rfl ?_
    refine RunD.xn rfl rfl rfl rfl rfl rfl ?_
    refine RunD.xn rfl rfl rfl rfl rfl rfl ?_
    refine RunD.xn rfl rfl rfl rfl rfl rfl ?_
    refine RunD.xn rfl rfl rfl rfl rfl rfl ?_
    refine RunD.xn rfl rfl rfl rfl rfl rfl ?_
    refine RunD.xn rfl rfl rfl rfl rfl rfl ?_
    refine RunD.xn rfl rfl rfl rfl rfl rfl ?_
    refine RunD.xn rfl rfl rfl rfl rfl rfl ?_
    refine RunD.ot0 (x := .v (.bool false)) rfl rfl rfl rfl (.pickF rfl rfl) rfl ?_
    refine RunD.ot0 (x := .v (.bool false)) rfl rfl rfl rfl (.assignX rfl) rfl ?_
    refine RunD.nil (by kernel_rfl) ⟨rfl, rfl, ?_⟩
    obtain rfl := si H
    refine T.sub (sub_to (st' := ⟨[(6, .v (.bool false))], [], 8, []⟩) [] (by decide) rfl rfl (⟨⟨_, rfl, .one .v⟩, trivial⟩) (trivial)) ?_
    refine T.ret ?_
    exact RetOk.same [.v (.bool false)] ⟨rfl, trivial⟩ rfl rfl rfl
set_option maxHeartbeats 4000000 in
theorem ref6_Clash_pc (al : Bool) (k : Nat) (a0 : Venue) (a1 : Int) (a2 : Int) (o : Bool) (H : ref6_Clash k a0 a1 a2 = some o) : PC Try.prog al 33 [.agg [.lst (List.map eSeat a0.Seats), .v (.int .i64 a0.Gap), .v (.int .i64 a0.Radius), .lst (List.map eI a0.Kills), .lst (List.map ePole a0.Poles)], .v (.int .i64 a1), .v (.int .i64 a2)] (.v (.bool o)) := by
  unfold ref6_Clash at H
  refine PC.of_T Try.func33 rfl rfl (n := 15) rfl rfl (.inr rfl) ?_
  intro base B w0
  refine T.st (st' := ⟨[(0, .agg [.lst (List.map eSeat a0.Seats), .v (.int .i64 a0.Gap), .v (.int .i64 a0.Radius), .lst (List.map eI a0.Kills), .lst (List.map ePole a0.Poles)]), (1, .v (.int .i64 a1)), (2, .v (.int .i64 a2))], [], 0, []⟩) rfl ?_
  refine T.seq ?_
  refine T.region ?_
  refine RunT.ot1 (x := .ptr 0 0) (p0 := (0, some (.box [.lst (List.map eSeat a0.Seats), .v (.int .i64 a0.Gap), .v (.int .i64 a0.Radius), .lst (List.map eI a0.Kills), .lst (List.map ePole a0.Poles)]))) (n' := 8) rfl rfl rfl rfl (.boxX rfl rfl rfl) rfl ?_
  refine RunT.ot0 (x := .v (.bool false)) rfl rfl rfl rfl (.assignX rfl) ?_
  refine RunT.nil ?_
  refine T.seq ?_
  refine T.region ?_
  refine RunT.ot0 (x := .agg [.lst (List.map eSeat a0.Seats), .v (.int .i64 a0.Gap), .v (.int .i64 a0.Radius), .lst (List.map eI a0.Kills), .lst (List.map ePole a0.Poles)]) rfl rfl rfl rfl (.loadP ty26 rfl rfl rfl) ?_
  obtain ⟨r1, h2, H⟩ := bs H
  refine RunT.ot0 (x := .v (.bool r1)) rfl rfl rfl rfl (.callp (ref2_May_pc false k a0 r1 h2) rfl ⟨(.agg' ⟨.lst, .v, .v, .lst, .lst, trivial⟩), trivial⟩ rfl rfl rfl) ?_
  refine RunT.ot0 (x := .v (.bool r1)) rfl rfl rfl rfl (.moveX rfl) ?_
  refine RunT.cases (t := 9) (c := r1) rfl (fun g3 => ?_) (fun g3 => ?_)
  · replace H := ct H g3
    refine RunT.gt0 (x := .agg [.lst (List.map eSeat a0.Seats), .v (.int .i64 a0.Gap), .v (.int .i64 a0.Radius), .lst (List.map eI a0.Kills), .lst (List.map ePole a0.Poles)]) rfl rfl rfl (bo g3) rfl rfl (.loadP ty26 rfl rfl rfl) ?_
    refine RunT.gt0 (x := .v (.int .i64 a1)) rfl rfl rfl (bo g3) rfl rfl (.moveX rfl) ?_
    refine RunT.gt0 (x := .v (.int .i64 a2)) rfl rfl rfl (bo g3) rfl rfl (.moveX rfl) ?_
    obtain ⟨r4, h5, H⟩ := bs H
    refine RunT.gt0 (x := .v (.bool r4)) rfl rfl rfl (bo g3) rfl rfl (.callp (ref6_clash_pc false k a0 a1 a2 r4 h5) rfl ⟨(.agg' ⟨.lst, .v, .v, .lst, .lst, trivial⟩), (.one .v), (.one .v), trivial⟩ rfl rfl rfl) ?_
    refine RunT.ot0 (x := .v (.bool r4)) rfl rfl rfl rfl (.pickT (bo g3) rfl) ?_
    refine RunT.ot0 (x := .v (.bool r4)) rfl rfl rfl rfl (.assignX rfl) ?_
    refine RunT.nil ?_
    obtain rfl := si H
    refine T.sub (sub_to (st' := ⟨[(6, .v (.bool r4))], [], 8, []⟩) [] (by decide) rfl rfl (⟨⟨_, rfl, .one .v⟩, trivial⟩) (trivial)) ?_
    refine T.ret ?_
    exact RetOk.same [.v (.bool r4)] ⟨rfl, trivial⟩ rfl rfl rfl
  · replace H := cf H g3
    refine RunT.xn rfl rfl rfl (bo g3) rfl rfl ?_
    refine RunT.xn rfl rfl rfl (bo g3) rfl rfl ?_
    refine RunT.xn rfl rfl rfl (bo g3) rfl rfl ?_
    refine RunT.xn rfl rfl rfl (bo g3) rfl rfl ?_
    refine RunT.ot0 (x := .v (.bool false)) rfl rfl rfl rfl (.pickF (bo g3) rfl) ?_
    refine RunT.ot0 (x := .v (.bool false)) rfl rfl rfl rfl (.assignX rfl) ?_
    refine RunT.nil ?_
    obtain rfl := si H
    refine T.sub (sub_to (st' := ⟨[(6, .v (.bool false))], [], 8, []⟩) [] (by decide) rfl rfl (⟨⟨_, rfl, .one .v⟩, trivial⟩) (trivial)) ?_
    refine T.ret ?_
    exact RetOk.same [.v (.bool false)] ⟨rfl, trivial⟩ rfl rfl rfl
set_option maxHeartbeats 4000000 in
theorem law3_Make_pc (al : Bool) (k : Nat) (a0 : (List Int)) (a1 : Int) (o : Venue) (H : law3_Make k a0 a1 = some o) : PC Try.prog al 40 [.lst (List.map eI a0), .v (.int .i64 a1)] (.agg [.frs 4 (List.map eSeat o.Seats), .v (.int .i64 o.Gap), .v (.int .i64 o.Radius), .frs 1 (List.map eI o.Kills), .frs 3 (List.map ePole o.Poles)]) := by
  unfold law3_Make at H
  refine PC.of_T Try.func40 rfl rfl (n := 106) rfl rfl (.inr (flatC_agg ⟨(flat1_frs (sz := 4) fl_Seat), rfl, rfl, (flat1_frs (sz := 1) fl_I), (flat1_frs (sz := 3) fl_Pole), trivial⟩)) ?_
  intro base B w0
  refine T.st (st' := ⟨[(0, .lst (List.map eI a0)), (1, .v (.int .i64 a1))], [], 0, []⟩) rfl ?_
  refine T.seq ?_
  refine T.region ?_
  refine RunT.ot1 (x := .ptr 0 0) (p0 := (0, some (.box [.v (.slice none 0 0), .v (.int .i64 0), .v (.int .i64 0), .v (.slice none 0 0), .v (.slice none 0 0)]))) (n' := 8) rfl rfl rfl rfl (.allocX in26.zero rfl rfl) rfl ?_
  refine RunT.nil ?_
  refine T.seq ?_
  refine T.region ?_
  refine RunT.ot0 (x := .agg [.v (.int .i64 0), .v (.int .i64 0), .v (.int .i64 0), .v (.int .i64 0)]) rfl rfl rfl rfl (.bu bu28 rfl) ?_
  refine RunT.ot1 (x := .own 8 0 (([Seat.mk 0 0 0 0]).length)) (p0 := (8, some (.arr false 4 (List.map eSeat [Seat.mk 0 0 0 0])))) (n' := 16) rfl rfl rfl rfl (.bslicem (d := false) (l := [Seat.mk 0 0 0 0]) (f := eSeat) sl22 rfl rfl rfl enc_Seat rfl) rfl ?_
  refine RunT.ot0 (x := .agg [.own 8 0 (([Seat.mk 0 0 0 0]).length), .v (.int .i64 10), .v (.int .i64 0), .v (.slice none 0 0), .v (.slice none 0 0)]) rfl rfl rfl rfl (.bu bu26 rfl) ?_
  refine RunT.ot1 (x := .ptr 16 0) (p0 := (16, some (.box [.v (.slice none 0 0), .v (.int .i64 0), .v (.int .i64 0), .v (.slice none 0 0), .v (.slice none 0 0)]))) (n' := 24) rfl rfl rfl rfl (.allocX in26.zero rfl rfl) rfl ?_
  refine RunT.on1 (x := .junk) (p0 := (16, some (.box [.own 8 0 (([Seat.mk 0 0 0 0]).length), .v (.int .i64 10), .v (.int .i64 0), .v (.slice none 0 0), .v (.slice none 0 0)]))) (n' := 32) rfl rfl rfl (.storePX ty26 rfl rfl rfl rfl rfl rfl rfl) rfl ?_
  refine RunT.nil ?_
  refine T.seq ?_
  refine T.region ?_
  refine RunT.ot0 (x := .v (.int .i64 0)) rfl rfl rfl rfl (.assignX rfl) ?_
  refine RunT.ot0 (x := .v (.int .i64 0)) rfl rfl rfl rfl (.assignX rfl) ?_
  refine RunT.nil ?_
  refine T.seq ?_
  refine T.seq ?_
  refine T.region ?_
  refine RunT.ot0 (x := .v (.int .i64 0)) rfl rfl rfl rfl (.assignX rfl) ?_
  refine RunT.nil ?_
  obtain ⟨o88, E89, HO90⟩ := bs H
  refine T.cutE (⟨[(4, .ptr 0 0), (5, .ptr 1 0)], [(0, some (.box [.v (.slice none 0 0), .v (.int .i64 0), .v (.int .i64 0), .v (.slice none 0 0), .v (.slice none 0 0)])), (1, some (.box [.own 2 0 o88.1.length, .v (.int .i64 10), .v (.int .i64 o88.2.1), .own 3 0 o88.2.2.1.length, .own 4 0 o88.2.2.2.length])), (2, some (.arr false 4 (List.map eSeat o88.1))), (3, some (.arr false 1 (List.map eI o88.2.2.1))), (4, some (.arr false 3 (List.map ePole o88.2.2.2)))], 8, []⟩) ?_ ?_
  · have H := E89
    refine T.block ?_
    refine T.loopS (fun n s => ∃ (v91 : (List Seat)) (v92 : Int) (v93 : (List Int)) (v94 : (List Pole)) (v95 : Int) (v96 : Int) (v97 : Int), law3_Make_l0 k a0 a1 n v91 v92 v93 v94 v95 v96 v97 = some o88 ∧ s = ⟨[(0, .lst (List.map eI a0)), (1, .v (.int .i64 a1)), (4, .ptr 0 0), (5, .ptr 1 0), (6, .v (.int .i64 v95)), (7, .v (.int .i64 v96)), (8, .v (.int .i64 v97))], [(0, some (.box [.v (.slice none 0 0), .v (.int .i64 0), .v (.int .i64 0), .v (.slice none 0 0), .v (.slice none 0 0)])), (1, some (.box [.own 2 0 v91.length, .v (.int .i64 10), .v (.int .i64 v92), .own 3 0 v93.length, .own 4 0 v94.length])), (2, some (.arr false 4 (List.map eSeat v91))), (3, some (.arr false 1 (List.map eI v93))), (4, some (.arr false 3 (List.map ePole v94)))], 8, []⟩) k ⟨_, ⟨[Seat.mk 0 0 0 0], 0, [], [], 0, 0, 0, H, rfl⟩, sub_to [some 0, some 16, some 8, none, none] (by decide) rfl rfl (⟨⟨_, rfl, .one .lst⟩, ⟨⟨_, rfl, .one .v⟩, ⟨⟨_, rfl, .one (.ptr rfl)⟩, ⟨⟨_, rfl, .one (.ptr rfl)⟩, ⟨⟨_, rfl, .one .v⟩, ⟨⟨_, rfl, .one .v⟩, ⟨⟨_, rfl, .one .v⟩, trivial⟩⟩⟩⟩⟩⟩⟩) (⟨⟨rfl, .inl ⟨_, _, rfl, rfl, .box ⟨.v, .v, .v, .v, .v, trivial⟩⟩⟩, ⟨⟨rfl, .inl ⟨_, _, rfl, rfl, .box ⟨(.own rfl), .v, .v, .nilO, .nilO, trivial⟩⟩⟩, ⟨⟨rfl, .inl ⟨_, _, rfl, rfl, .arr rfl⟩⟩, ⟨⟨rfl, .inr ⟨rfl, false, _, rfl, (by decide)⟩⟩, ⟨⟨rfl, .inr ⟨rfl, false, _, rfl, (by decide)⟩⟩, trivial⟩⟩⟩⟩⟩)⟩ ?_
    rintro n s ⟨v91, v92, v93, v94, v95, v96, v97, H, rfl⟩
    rcases n with _ | n
    · cases (show none = some _ from H)
    rw [law3_Make_l0] at H
    refine T.seq ?_
    obtain ⟨o99, E100, HO101⟩ := bs H
    refine T.cut (⟨[(0, .lst (List.map eI a0)), (1, .v (.int .i64 a1)), (4, .ptr 0 0), (5, .ptr 1 0), (6, .v (.int .i64 v95)), (7, .v (.int .i64 v96)), (8, .v (.int .i64 v97)), (24, .v (.bool o99))], [(0, some (.box [.v (.slice none 0 0), .v (.int .i64 0), .v (.int .i64 0), .v (.slice none 0 0), .v (.slice none 0 0)])), (1, some (.box [.own 2 0 v91.length, .v (.int .i64 10), .v (.int .i64 v92), .own 3 0 v93.length, .own 4 0 v94.length])), (2, some (.arr false 4 (List.map eSeat v91))), (3, some (.arr false 1 (List.map eI v93))), (4, some (.arr false 3 (List.map ePole v94)))], 8, []⟩) ?_ ?_
    · have H := E100
      refine T.sub (sub_pick [0, 1, 4, 5, 6, 7, 8] [0, 1, 2, 3, 4] (st' := ⟨[(0, .lst (List.map eI a0)), (1, .v (.int .i64 a1)), (4, .ptr 0 0), (5, .ptr 1 0), (6, .v (.int .i64 v95)), (7, .v (.int .i64 v96)), (8, .v (.int .i64 v97))], [(0, some (.box [.v (.slice none 0 0), .v (.int .i64 0), .v (.int .i64 0), .v (.slice none 0 0), .v (.slice none 0 0)])), (1, some (.box [.own 2 0 v91.length, .v (.int .i64 10), .v (.int .i64 v92), .own 3 0 v93.length, .own 4 0 v94.length])), (2, some (.arr false 4 (List.map eSeat v91))), (3, some (.arr false 1 (List.map eI v93))), (4, some (.arr false 3 (List.map ePole v94)))], 8, []⟩) rfl rfl rfl rfl rfl) ?_
      refine T.region ?_
      refine RunT.ot0 (x := .v (.int .i64 v97)) rfl rfl rfl rfl (.moveX rfl) ?_
      refine RunT.ot0 (x := .lst (List.map eI a0)) rfl rfl rfl rfl (.moveX rfl) ?_
      refine RunT.ot0 (x := .v (.int .i64 (a0.length : Int))) rfl rfl rfl rfl (.lenLm Try.underlying23 rfl rfl) ?_
      refine RunT.ot0 (x := .v (.bool (decide (v97 < (a0.length : Int))))) rfl rfl rfl rfl (.bin rfl rfl (fun w => b_lss w) rfl) ?_
      refine RunT.ot0 (x := .v (.bool (decide (v97 < (a0.length : Int))))) rfl rfl rfl rfl (.moveX rfl) ?_
      refine RunT.cases (t := 18) (c := decide (v97 < (a0.length : Int))) rfl (fun g102 => ?_) (fun g102 => ?_)
      · replace H := ct H g102
        refine RunT.gt0 (x := .ptr 1 0) rfl rfl rfl (bo g102) rfl rfl (.fieldPX fl26_0 rfl rfl) ?_
        refine RunT.gt0 (x := .own 2 0 v91.length) rfl rfl rfl (bo g102) rfl rfl (.loadP ty22 rfl rfl rfl) ?_
        refine RunT.gt0 (x := .v (.int .i64 (v91.length : Int))) rfl rfl rfl (bo g102) rfl rfl (.lenON rfl Try.underlying22 rfl rfl) ?_
        refine RunT.gt0 (x := .v (.int .i64 a1)) rfl rfl rfl (bo g102) rfl rfl (.moveX rfl) ?_
        refine RunT.gt0 (x := .v (.bool (decide ((v91.length : Int) < a1)))) rfl rfl rfl (bo g102) rfl rfl (.bin rfl rfl (fun w => b_lss w) rfl) ?_
        refine RunT.ot0 (x := .v (.bool (decide ((v91.length : Int) < a1)))) rfl rfl rfl rfl (.pickT (bo g102) rfl) ?_
        refine RunT.nil ?_
        obtain rfl := si H
        exact (sub_to [some 0, some 1, some 2, some 3, some 4] (by decide) rfl rfl (⟨⟨_, rfl, .one .lst⟩, ⟨⟨_, rfl, .one .v⟩, ⟨⟨_, rfl, .one (.ptr rfl)⟩, ⟨⟨_, rfl, .one (.ptr rfl)⟩, ⟨⟨_, rfl, .one .v⟩, ⟨⟨_, rfl, .one .v⟩, ⟨⟨_, rfl, .one .v⟩, ⟨⟨_, rfl, .one .v⟩, trivial⟩⟩⟩⟩⟩⟩⟩⟩) (⟨⟨rfl, .inl ⟨_, _, rfl, rfl, .box ⟨.v, .v, .v, .v, .v, trivial⟩⟩⟩, ⟨⟨rfl, .inl ⟨_, _, rfl, rfl, .box ⟨(.own rfl), .v, .v, (.own rfl), (.own rfl), trivial⟩⟩⟩, ⟨⟨rfl, .inl ⟨_, _, rfl, rfl, .arr rfl⟩⟩, ⟨⟨rfl, .inl ⟨_, _, rfl, rfl, .arr rfl⟩⟩, ⟨⟨rfl, .inl ⟨_, _, rfl, rfl, .arr rfl⟩⟩, trivial⟩⟩⟩⟩⟩))
      · replace H := cf H g102
        refine RunT.xn rfl rfl rfl (bo g102) rfl rfl ?_
        refine RunT.xn rfl rfl rfl (bo g102) rfl rfl ?_
        refine RunT.xn rfl rfl rfl (bo g102) rfl rfl ?_
        refine RunT.xn rfl rfl rfl (bo g102) rfl rfl ?_
        refine RunT.xn rfl rfl rfl (bo g102) rfl rfl ?_
        refine RunT.ot0 (x := .v (.bool false)) rfl rfl rfl rfl (.pickF (bo g102) rfl) ?_
        refine RunT.nil ?_
        obtain rfl := si H
        exact (sub_to [some 0, some 1, some 2, some 3, some 4] (by decide) rfl rfl (⟨⟨_, rfl, .one .lst⟩, ⟨⟨_, rfl, .one .v⟩, ⟨⟨_, rfl, .one (.ptr rfl)⟩, ⟨⟨_, rfl, .one (.ptr rfl)⟩, ⟨⟨_, rfl, .one .v⟩, ⟨⟨_, rfl, .one .v⟩, ⟨⟨_, rfl, .one .v⟩, ⟨⟨_, rfl, .one .v⟩, trivial⟩⟩⟩⟩⟩⟩⟩⟩) (⟨⟨rfl, .inl ⟨_, _, rfl, rfl, .box ⟨.v, .v, .v, .v, .v, trivial⟩⟩⟩, ⟨⟨rfl, .inl ⟨_, _, rfl, rfl, .box ⟨(.own rfl), .v, .v, (.own rfl), (.own rfl), trivial⟩⟩⟩, ⟨⟨rfl, .inl ⟨_, _, rfl, rfl, .arr rfl⟩⟩, ⟨⟨rfl, .inl ⟨_, _, rfl, rfl, .arr rfl⟩⟩, ⟨⟨rfl, .inl ⟨_, _, rfl, rfl, .arr rfl⟩⟩, trivial⟩⟩⟩⟩⟩))
    · have H := HO101
      refine T.cond2 (t := o99) rfl (fun c103 => ?_) (fun c103 => ?_)
      · replace H := ct H c103
        refine T.skip ?_
        refine T.seq ?_
        refine T.block ?_
        refine T.seq ?_
        refine T.region ?_
        refine RunT.ot0 (x := .lst (List.map eI a0)) rfl rfl rfl rfl (.moveX rfl) ?_
        refine RunT.ot0 (x := .v (.int .i64 v97)) rfl rfl rfl rfl (.moveX rfl) ?_
        obtain ⟨y104, h105, H⟩ := bs H
        refine RunT.ot0 (x := .rptr [.v (.int .i64 y104)]) rfl rfl rfl rfl (.idxLX h105 enc_I sl23 rfl rfl rfl) ?_
        refine RunT.ot0 (x := .v (.int .i64 y104)) rfl rfl rfl rfl (.loadR ty3 rfl rfl) ?_
        refine RunT.ot0 (x := .v (.int .u64 (IntKind.u64.wrap y104))) rfl rfl rfl rfl (.conv rfl (fun w => c_int w ⟨_, Try.underlying3⟩ Try.underlying41) rfl) ?_
        refine RunT.ot0 (x := .v (.int .u64 (IntKind.u64.wrap y104))) rfl rfl rfl rfl (.assignX rfl) ?_
        refine RunT.nil ?_
        refine T.seq ?_
        refine T.sub (sub_pick [0, 1, 4, 5, 6, 7, 8, 9] [0, 1, 2, 3, 4] (st' := ⟨[(0, .lst (List.map eI a0)), (1, .v (.int .i64 a1)), (4, .ptr 0 0), (5, .ptr 1 0), (6, .v (.int .i64 v95)), (7, .v (.int .i64 v96)), (8, .v (.int .i64 v97)), (9, .v (.int .u64 (IntKind.u64.wrap y104)))], [(0, some (.box [.v (.slice none 0 0), .v (.int .i64 0), .v (.int .i64 0), .v (.slice none 0 0), .v (.slice none 0 0)])), (1, some (.box [.own 2 0 v91.length, .v (.int .i64 10), .v (.int .i64 v92), .own 3 0 v93.length, .own 4 0 v94.length])), (2, some (.arr false 4 (List.map eSeat v91))), (3, some (.arr false 1 (List.map eI v93))), (4, some (.arr false 3 (List.map ePole v94)))], 8, []⟩) rfl rfl rfl rfl rfl) ?_
        refine T.region ?_
        refine RunT.ot0 (x := .v (.int .i64 v96)) rfl rfl rfl rfl (.moveX rfl) ?_
        refine RunT.ot0 (x := .v (.int .i64 (wr (v96 + 10)))) rfl rfl rfl rfl (.bin rfl rfl (fun w => b_addw w) rfl) ?_
        refine RunT.ot0 (x := .v (.int .i64 (wr (v96 + 10)))) rfl rfl rfl rfl (.assignX rfl) ?_
        refine RunT.nil ?_
        refine T.seq ?_
        refine T.seq ?_
        refine T.region ?_
        refine RunT.ot0 (x := .v (.int .u64 (IntKind.u64.wrap y104))) rfl rfl rfl rfl (.moveX rfl) ?_
        refine RunT.ot0 (x := .v (.int .u64 ((IntKind.u64.wrap y104).tmod 7))) rfl rfl rfl rfl (.bin rfl rfl (fun w => b_rem w (by decide)) rfl) ?_
        refine RunT.nil ?_
        refine T.block ?_
        refine T.seq ?_
        refine T.region ?_
        refine RunT.ot0 (x := .v (.bool (decide (((IntKind.u64.wrap y104).tmod 7) = 0)))) rfl rfl rfl rfl (.bin rfl rfl (fun w => b_eql w) rfl) ?_
        refine RunT.ot0 (x := .v (.bool (decide (((IntKind.u64.wrap y104).tmod 7) = 0)))) rfl rfl rfl rfl (.assignX rfl) ?_
        refine RunT.nil ?_
        obtain ⟨o108, E109, HO110⟩ := bs H
        refine T.cutE (⟨[(0, .lst (List.map eI a0)), (1, .v (.int .i64 a1)), (4, .ptr 0 0), (5, .ptr 1 0), (6, .v (.int .i64 o108.1)), (7, .v (.int .i64 o108.2)), (8, .v (.int .i64 v97)), (9, .v (.int .u64 (IntKind.u64.wrap y104)))], [(0, some (.box [.v (.slice none 0 0), .v (.int .i64 0), .v (.int .i64 0), .v (.slice none 0 0), .v (.slice none 0 0)])), (1, some (.box [.own 2 0 v91.length, .v (.int .i64 10), .v (.int .i64 v92), .own 3 0 v93.length, .own 4 0 v94.length])), (2, some (.arr false 4 (List.map eSeat v91))), (3, some (.arr false 1 (List.map eI v93))), (4, some (.arr false 3 (List.map ePole v94)))], 8, []⟩) ?_ ?_
        · have H := E109
          refine T.cond2 (t := decide (((IntKind.u64.wrap y104).tmod 7) = 0)) rfl (fun c111 => ?_) (fun c111 => ?_)
          · replace H := ct H c111
            refine T.sub (sub_pick [0, 1, 4, 5, 6, 8, 9] [0, 1, 2, 3, 4] (st' := ⟨[(0, .lst (List.map eI a0)), (1, .v (.int .i64 a1)), (4, .ptr 0 0), (5, .ptr 1 0), (6, .v (.int .i64 v95)), (8, .v (.int .i64 v97)), (9, .v (.int .u64 (IntKind.u64.wrap y104)))], [(0, some (.box [.v (.slice none 0 0), .v (.int .i64 0), .v (.int .i64 0), .v (.slice none 0 0), .v (.slice none 0 0)])), (1, some (.box [.own 2 0 v91.length, .v (.int .i64 10), .v (.int .i64 v92), .own 3 0 v93.length, .own 4 0 v94.length])), (2, some (.arr false 4 (List.map eSeat v91))), (3, some (.arr false 1 (List.map eI v93))), (4, some (.arr false 3 (List.map ePole v94)))], 8, []⟩) rfl rfl rfl rfl rfl) ?_
            refine T.region ?_
            refine RunT.ot0 (x := .v (.int .i64 v95)) rfl rfl rfl rfl (.moveX rfl) ?_
            refine RunT.ot0 (x := .v (.int .i64 (wr (v95 + 1)))) rfl rfl rfl rfl (.bin rfl rfl (fun w => b_addw w) rfl) ?_
            refine RunT.ot0 (x := .v (.int .i64 (wr (v95 + 1)))) rfl rfl rfl rfl (.assignX rfl) ?_
            refine RunT.ot0 (x := .v (.int .i64 0)) rfl rfl rfl rfl (.assignX rfl) ?_
            refine RunT.nil ?_
            obtain rfl := si H
            exact (sub_to [some 0, some 1, some 2, some 3, some 4] (by decide) rfl rfl (⟨⟨_, rfl, .one .lst⟩, ⟨⟨_, rfl, .one .v⟩, ⟨⟨_, rfl, .one (.ptr rfl)⟩, ⟨⟨_, rfl, .one (.ptr rfl)⟩, ⟨⟨_, rfl, .one .v⟩, ⟨⟨_, rfl, .one .v⟩, ⟨⟨_, rfl, .one .v⟩, ⟨⟨_, rfl, .one .v⟩, trivial⟩⟩⟩⟩⟩⟩⟩⟩) (⟨⟨rfl, .inl ⟨_, _, rfl, rfl, .box ⟨.v, .v, .v, .v, .v, trivial⟩⟩⟩, ⟨⟨rfl, .inl ⟨_, _, rfl, rfl, .box ⟨(.own rfl), .v, .v, (.own rfl), (.own rfl), trivial⟩⟩⟩, ⟨⟨rfl, .inl ⟨_, _, rfl, rfl, .arr rfl⟩⟩, ⟨⟨rfl, .inl ⟨_, _, rfl, rfl, .arr rfl⟩⟩, ⟨⟨rfl, .inl ⟨_, _, rfl, rfl, .arr rfl⟩⟩, trivial⟩⟩⟩⟩⟩))
          · replace H := cf H c111
            refine T.seq ?_
            refine T.region ?_
            refine RunT.ot0 (x := .v (.bool (decide (((IntKind.u64.wrap y104).tmod 7) = 1)))) rfl rfl rfl rfl (.bin rfl rfl (fun w => b_eql w) rfl) ?_
            refine RunT.ot0 (x := .v (.bool (decide (((IntKind.u64.wrap y104).tmod 7) = 1)))) rfl rfl rfl rfl (.assignX rfl) ?_
            refine RunT.nil ?_
            refine T.cond2 (t := decide (((IntKind.u64.wrap y104).tmod 7) = 1)) rfl (fun c112 => ?_) (fun c112 => ?_)
            · replace H := ct H c112
              refine T.region ?_
              refine RunT.ot0 (x := .v (.int .i64 (wr (v96 + 10)))) rfl rfl rfl rfl (.moveX rfl) ?_
              refine RunT.ot0 (x := .v (.int .i64 (wr ((wr (v96 + 10)) + 5)))) rfl rfl rfl rfl (.bin rfl rfl (fun w => b_addw w) rfl) ?_
              refine RunT.ot0 (x := .v (.int .i64 (wr ((wr (v96 + 10)) + 5)))) rfl rfl rfl rfl (.assignX rfl) ?_
              refine RunT.nil ?_
              obtain rfl := si H
              exact (sub_to [some 0, some 1, some 2, some 3, some 4] (by decide) rfl rfl (⟨⟨_, rfl, .one .lst⟩, ⟨⟨_, rfl, .one .v⟩, ⟨⟨_, rfl, .one (.ptr rfl)⟩, ⟨⟨_, rfl, .one (.ptr rfl)⟩, ⟨⟨_, rfl, .one .v⟩, ⟨⟨_, rfl, .one .v⟩, ⟨⟨_, rfl, .one .v⟩, ⟨⟨_, rfl, .one .v⟩, trivial⟩⟩⟩⟩⟩⟩⟩⟩) (⟨⟨rfl, .inl ⟨_, _, rfl, rfl, .box ⟨.v, .v, .v, .v, .v, trivial⟩⟩⟩, ⟨⟨rfl, .inl ⟨_, _, rfl, rfl, .box ⟨(.own rfl), .v, .v, (.own rfl), (.own rfl), trivial⟩⟩⟩, ⟨⟨rfl, .inl ⟨_, _, rfl, rfl, .arr rfl⟩⟩, ⟨⟨rfl, .inl ⟨_, _, rfl, rfl, .arr rfl⟩⟩, ⟨⟨rfl, .inl ⟨_, _, rfl, rfl, .arr rfl⟩⟩, trivial⟩⟩⟩⟩⟩))
            · replace H := cf H c112
              refine T.skip ?_
              obtain rfl := si H
              exact (sub_to [some 0, some 1, some 2, some 3, some 4] (by decide) rfl rfl (⟨⟨_, rfl, .one .lst⟩, ⟨⟨_, rfl, .one .v⟩, ⟨⟨_, rfl, .one (.ptr rfl)⟩, ⟨⟨_, rfl, .one (.ptr rfl)⟩, ⟨⟨_, rfl, .one .v⟩, ⟨⟨_, rfl, .one .v⟩, ⟨⟨_, rfl, .one .v⟩, ⟨⟨_, rfl, .one .v⟩, trivial⟩⟩⟩⟩⟩⟩⟩⟩) (⟨⟨rfl, .inl ⟨_, _, rfl, rfl, .box ⟨.v, .v, .v, .v, .v, trivial⟩⟩⟩, ⟨⟨rfl, .inl ⟨_, _, rfl, rfl, .box ⟨(.own rfl), .v, .v, (.own rfl), (.own rfl), trivial⟩⟩⟩, ⟨⟨rfl, .inl ⟨_, _, rfl, rfl, .arr rfl⟩⟩, ⟨⟨rfl, .inl ⟨_, _, rfl, rfl, .arr rfl⟩⟩, ⟨⟨rfl, .inl ⟨_, _, rfl, rfl, .arr rfl⟩⟩, trivial⟩⟩⟩⟩⟩))
        · intro s hS
          have H := HO110
          refine T.sub hS ?_
          refine T.seq ?_
          refine T.region ?_
          refine RunT.ot0 (x := .v (.int .i64 o108.1)) rfl rfl rfl rfl (.moveX rfl) ?_
          refine RunT.ot0 (x := .v (.int .i64 o108.2)) rfl rfl rfl rfl (.moveX rfl) ?_
          refine RunT.ot0 (x := .v (.int .i64 o108.1)) rfl rfl rfl rfl (.moveX rfl) ?_
          refine RunT.ot0 (x := .v (.int .i64 (wr (10 * o108.1)))) rfl rfl rfl rfl (.bin rfl rfl (fun w => b_mulw w) rfl) ?_
          refine RunT.ot0 (x := .agg [.v (.int .i64 o108.1), .v (.int .i64 o108.2), .v (.int .i64 (wr (10 * o108.1))), .v (.int .i64 0)]) rfl rfl rfl rfl (.bu bu28 rfl) ?_
          refine RunT.ot1 (x := .ptr 8 0) (p0 := (8, some (.box [.v (.int .i64 0), .v (.int .i64 0), .v (.int .i64 0), .v (.int .i64 0)]))) (n' := 16) rfl rfl rfl rfl (.allocX in28.zero rfl rfl) rfl ?_
          refine RunT.on1 (x := .junk) (p0 := (8, some (.box [.v (.int .i64 o108.1), .v (.int .i64 o108.2), .v (.int .i64 (wr (10 * o108.1))), .v (.int .i64 0)]))) (n' := 24) rfl rfl rfl (.storePX ty28 rfl rfl rfl rfl rfl rfl rfl) rfl ?_
          refine RunT.nil ?_
          refine T.seq ?_
          refine T.seq ?_
          refine T.sub (sub_pick [0, 1, 4, 5, 6, 7, 8, 9, 10] [0, 1, 2, 3, 4, 8] (st' := ⟨[(0, .lst (List.map eI a0)), (1, .v (.int .i64 a1)), (4, .ptr 0 0), (5, .ptr 1 0), (6, .v (.int .i64 o108.1)), (7, .v (.int .i64 o108.2)), (8, .v (.int .i64 v97)), (9, .v (.int .u64 (IntKind.u64.wrap y104))), (10, .ptr 8 0)], [(0, some (.box [.v (.slice none 0 0), .v (.int .i64 0), .v (.int .i64 0), .v (.slice none 0 0), .v (.slice none 0 0)])), (1, some (.box [.own 2 0 v91.length, .v (.int .i64 10), .v (.int .i64 v92), .own 3 0 v93.length, .own 4 0 v94.length])), (2, some (.arr false 4 (List.map eSeat v91))), (3, some (.arr false 1 (List.map eI v93))), (4, some (.arr false 3 (List.map ePole v94))), (8, some (.box [.v (.int .i64 o108.1), .v (.int .i64 o108.2), .v (.int .i64 (wr (10 * o108.1))), .v (.int .i64 0)]))], 24, []⟩) rfl rfl rfl rfl rfl) ?_
          refine T.region ?_
          refine RunT.ot0 (x := .v (.int .u64 (IntKind.u64.wrap y104))) rfl rfl rfl rfl (.moveX rfl) ?_
          refine RunT.ot0 (x := .v (.int .u64 (IntKind.u64.wrap ((IntKind.u64.wrap y104).tdiv 7)))) rfl rfl rfl rfl (.bin rfl rfl (fun w => b_quo w (by decide)) rfl) ?_
          refine RunT.ot0 (x := .v (.int .u64 ((IntKind.u64.wrap ((IntKind.u64.wrap y104).tdiv 7)).tmod 6))) rfl rfl rfl rfl (.bin rfl rfl (fun w => b_rem w (by decide)) rfl) ?_
          refine RunT.nil ?_
          refine T.block ?_
          refine T.seq ?_
          refine T.region ?_
          refine RunT.ot0 (x := .v (.bool (decide (((IntKind.u64.wrap ((IntKind.u64.wrap y104).tdiv 7)).tmod 6) = 0)))) rfl rfl rfl rfl (.bin rfl rfl (fun w => b_eql w) rfl) ?_
          refine RunT.ot0 (x := .v (.bool (decide (((IntKind.u64.wrap ((IntKind.u64.wrap y104).tdiv 7)).tmod 6) = 0)))) rfl rfl rfl rfl (.assignX rfl) ?_
          refine RunT.nil ?_
          obtain ⟨o116, E117, HO118⟩ := bs H
          refine T.cutE (⟨[(0, .lst (List.map eI a0)), (1, .v (.int .i64 a1)), (4, .ptr 0 0), (5, .ptr 1 0), (6, .v (.int .i64 o108.1)), (7, .v (.int .i64 o108.2)), (8, .v (.int .i64 v97)), (9, .v (.int .u64 (IntKind.u64.wrap y104))), (10, .ptr 5 0)], [(0, some (.box [.v (.slice none 0 0), .v (.int .i64 0), .v (.int .i64 0), .v (.slice none 0 0), .v (.slice none 0 0)])), (1, some (.box [.own 2 0 v91.length, .v (.int .i64 10), .v (.int .i64 v92), .own 3 0 v93.length, .own 4 0 v94.length])), (2, some (.arr false 4 (List.map eSeat v91))), (3, some (.arr false 1 (List.map eI v93))), (4, some (.arr false 3 (List.map ePole v94))), (5, some (.box [.v (.int .i64 o108.1), .v (.int .i64 o108.2), .v (.int .i64 (wr (10 * o108.1))), .v (.int .i64 o116)]))], 8, []⟩) ?_ ?_
          · have H := E117
            refine T.cond2 (t := decide (((IntKind.u64.wrap ((IntKind.u64.wrap y104).tdiv 7)).tmod 6) = 0)) rfl (fun c119 => ?_) (fun c119 => ?_)
            · replace H := ct H c119
              refine T.region ?_
              refine RunT.ot0 (x := .ptr 8 3) rfl rfl rfl rfl (.fieldPX fl28_3 rfl rfl) ?_
              refine RunT.on1 (x := .junk) (p0 := (8, some (.box [.v (.int .i64 o108.1), .v (.int .i64 o108.2), .v (.int .i64 (wr (10 * o108.1))), .v (.int .i64 1)]))) (n' := 32) rfl rfl rfl (.storePX ty3 rfl rfl rfl rfl rfl rfl rfl) rfl ?_
              refine RunT.nil ?_
              obtain rfl := si H
              exact (sub_to [some 0, some 1, some 2, some 3, some 4, some 8] (by decide) rfl rfl (⟨⟨_, rfl, .one .lst⟩, ⟨⟨_, rfl, .one .v⟩, ⟨⟨_, rfl, .one (.ptr rfl)⟩, ⟨⟨_, rfl, .one (.ptr rfl)⟩, ⟨⟨_, rfl, .one .v⟩, ⟨⟨_, rfl, .one .v⟩, ⟨⟨_, rfl, .one .v⟩, ⟨⟨_, rfl, .one .v⟩, ⟨⟨_, rfl, .one (.ptr rfl)⟩, trivial⟩⟩⟩⟩⟩⟩⟩⟩⟩) (⟨⟨rfl, .inl ⟨_, _, rfl, rfl, .box ⟨.v, .v, .v, .v, .v, trivial⟩⟩⟩, ⟨⟨rfl, .inl ⟨_, _, rfl, rfl, .box ⟨(.own rfl), .v, .v, (.own rfl), (.own rfl), trivial⟩⟩⟩, ⟨⟨rfl, .inl ⟨_, _, rfl, rfl, .arr rfl⟩⟩, ⟨⟨rfl, .inl ⟨_, _, rfl, rfl, .arr rfl⟩⟩, ⟨⟨rfl, .inl ⟨_, _, rfl, rfl, .arr rfl⟩⟩, ⟨⟨rfl, .inl ⟨_, _, rfl, rfl, .box ⟨.v, .v, .v, .v, trivial⟩⟩⟩, trivial⟩⟩⟩⟩⟩⟩))
            · replace H := cf H c119
              refine T.seq ?_
              refine T.seq ?_
              refine T.sub (sub_pick [0, 1, 4, 5, 6, 7, 8, 9, 10, 51] [0, 1, 2, 3, 4, 8] (st' := ⟨[(0, .lst (List.map eI a0)), (1, .v (.int .i64 a1)), (4, .ptr 0 0), (5, .ptr 1 0), (6, .v (.int .i64 o108.1)), (7, .v (.int .i64 o108.2)), (8, .v (.int .i64 v97)), (9, .v (.int .u64 (IntKind.u64.wrap y104))), (10, .ptr 8 0), (51, .v (.int .u64 ((IntKind.u64.wrap ((IntKind.u64.wrap y104).tdiv 7)).tmod 6)))], [(0, some (.box [.v (.slice none 0 0), .v (.int .i64 0), .v (.int .i64 0), .v (.slice none 0 0), .v (.slice none 0 0)])), (1, some (.box [.own 2 0 v91.length, .v (.int .i64 10), .v (.int .i64 v92), .own 3 0 v93.length, .own 4 0 v94.length])), (2, some (.arr false 4 (List.map eSeat v91))), (3, some (.arr false 1 (List.map eI v93))), (4, some (.arr false 3 (List.map ePole v94))), (8, some (.box [.v (.int .i64 o108.1), .v (.int .i64 o108.2), .v (.int .i64 (wr (10 * o108.1))), .v (.int .i64 0)]))], 24, []⟩) rfl rfl rfl rfl rfl) ?_
              refine T.region ?_
              refine RunT.ot0 (x := .v (.bool (decide (((IntKind.u64.wrap ((IntKind.u64.wrap y104).tdiv 7)).tmod 6) = 1)))) rfl rfl rfl rfl (.bin rfl rfl (fun w => b_eql w) rfl) ?_
              refine RunT.ot0 (x := .v (.bool (decide (((IntKind.u64.wrap ((IntKind.u64.wrap y104).tdiv 7)).tmod 6) = 1)))) rfl rfl rfl rfl (.assignX rfl) ?_
              refine RunT.nil ?_
              refine T.cond2 (t := decide (((IntKind.u64.wrap ((IntKind.u64.wrap y104).tdiv 7)).tmod 6) = 1)) rfl (fun c120 => ?_) (fun c120 => ?_)
              · replace H := ct H c120
                refine T.skip ?_
                refine T.condT (bo c120) ?_
                refine T.region ?_
                refine RunT.ot0 (x := .ptr 8 3) rfl rfl rfl rfl (.fieldPX fl28_3 rfl rfl) ?_
                refine RunT.on1 (x := .junk) (p0 := (8, some (.box [.v (.int .i64 o108.1), .v (.int .i64 o108.2), .v (.int .i64 (wr (10 * o108.1))), .v (.int .i64 2)]))) (n' := 32) rfl rfl rfl (.storePX ty3 rfl rfl rfl rfl rfl rfl rfl) rfl ?_
                refine RunT.nil ?_
                obtain rfl := si H
                exact (sub_to [some 0, some 1, some 2, some 3, some 4, some 8] (by decide) rfl rfl (⟨⟨_, rfl, .one .lst⟩, ⟨⟨_, rfl, .one .v⟩, ⟨⟨_, rfl, .one (.ptr rfl)⟩, ⟨⟨_, rfl, .one (.ptr rfl)⟩, ⟨⟨_, rfl, .one .v⟩, ⟨⟨_, rfl, .one .v⟩, ⟨⟨_, rfl, .one .v⟩, ⟨⟨_, rfl, .one .v⟩, ⟨⟨_, rfl, .one (.ptr rfl)⟩, trivial⟩⟩⟩⟩⟩⟩⟩⟩⟩) (⟨⟨rfl, .inl ⟨_, _, rfl, rfl, .box ⟨.v, .v, .v, .v, .v, trivial⟩⟩⟩, ⟨⟨rfl, .inl ⟨_, _, rfl, rfl, .box ⟨(.own rfl), .v, .v, (.own rfl), (.own rfl), trivial⟩⟩⟩, ⟨⟨rfl, .inl ⟨_, _, rfl, rfl, .arr rfl⟩⟩, ⟨⟨rfl, .inl ⟨_, _, rfl, rfl, .arr rfl⟩⟩, ⟨⟨rfl, .inl ⟨_, _, rfl, rfl, .arr rfl⟩⟩, ⟨⟨rfl, .inl ⟨_, _, rfl, rfl, .box ⟨.v, .v, .v, .v, trivial⟩⟩⟩, trivial⟩⟩⟩⟩⟩⟩))
              · replace H := cf H c120
                refine T.region ?_
                refine RunT.ot0 (x := .v (.bool (decide (((IntKind.u64.wrap ((IntKind.u64.wrap y104).tdiv 7)).tmod 6) = 2)))) rfl rfl rfl rfl (.bin rfl rfl (fun w => b_eql w) rfl) ?_
                refine RunT.ot0 (x := .v (.bool (decide (((IntKind.u64.wrap ((IntKind.u64.wrap y104).tdiv 7)).tmod 6) = 2)))) rfl rfl rfl rfl (.assignX rfl) ?_
                refine RunT.nil ?_
                refine T.cond2 (t := decide (((IntKind.u64.wrap ((IntKind.u64.wrap y104).tdiv 7)).tmod 6) = 2)) rfl (fun c121 => ?_) (fun c121 => ?_)
                · replace H := ct H c121
                  refine T.region ?_
                  refine RunT.ot0 (x := .ptr 8 3) rfl rfl rfl rfl (.fieldPX fl28_3 rfl rfl) ?_
                  refine RunT.on1 (x := .junk) (p0 := (8, some (.box [.v (.int .i64 o108.1), .v (.int .i64 o108.2), .v (.int .i64 (wr (10 * o108.1))), .v (.int .i64 2)]))) (n' := 32) rfl rfl rfl (.storePX ty3 rfl rfl rfl rfl rfl rfl rfl) rfl ?_
                  refine RunT.nil ?_
                  obtain rfl := si H
                  exact (sub_to [some 0, some 1, some 2, some 3, some 4, some 8] (by decide) rfl rfl (⟨⟨_, rfl, .one .lst⟩, ⟨⟨_, rfl, .one .v⟩, ⟨⟨_, rfl, .one (.ptr rfl)⟩, ⟨⟨_, rfl, .one (.ptr rfl)⟩, ⟨⟨_, rfl, .one .v⟩, ⟨⟨_, rfl, .one .v⟩, ⟨⟨_, rfl, .one .v⟩, ⟨⟨_, rfl, .one .v⟩, ⟨⟨_, rfl, .one (.ptr rfl)⟩, trivial⟩⟩⟩⟩⟩⟩⟩⟩⟩) (⟨⟨rfl, .inl ⟨_, _, rfl, rfl, .box ⟨.v, .v, .v, .v, .v, trivial⟩⟩⟩, ⟨⟨rfl, .inl ⟨_, _, rfl, rfl, .box ⟨(.own rfl), .v, .v, (.own rfl), (.own rfl), trivial⟩⟩⟩, ⟨⟨rfl, .inl ⟨_, _, rfl, rfl, .arr rfl⟩⟩, ⟨⟨rfl, .inl ⟨_, _, rfl, rfl, .arr rfl⟩⟩, ⟨⟨rfl, .inl ⟨_, _, rfl, rfl, .arr rfl⟩⟩, ⟨⟨rfl, .inl ⟨_, _, rfl, rfl, .box ⟨.v, .v, .v, .v, trivial⟩⟩⟩, trivial⟩⟩⟩⟩⟩⟩))
                · replace H := cf H c121
                  refine T.skip ?_
                  obtain rfl := si H
                  exact (sub_to [some 0, some 1, some 2, some 3, some 4, some 8] (by decide) rfl rfl (⟨⟨_, rfl, .one .lst⟩, ⟨⟨_, rfl, .one .v⟩, ⟨⟨_, rfl, .one (.ptr rfl)⟩, ⟨⟨_, rfl, .one (.ptr rfl)⟩, ⟨⟨_, rfl, .one .v⟩, ⟨⟨_, rfl, .one .v⟩, ⟨⟨_, rfl, .one .v⟩, ⟨⟨_, rfl, .one .v⟩, ⟨⟨_, rfl, .one (.ptr rfl)⟩, trivial⟩⟩⟩⟩⟩⟩⟩⟩⟩) (⟨⟨rfl, .inl ⟨_, _, rfl, rfl, .box ⟨.v, .v, .v, .v, .v, trivial⟩⟩⟩, ⟨⟨rfl, .inl ⟨_, _, rfl, rfl, .box ⟨(.own rfl), .v, .v, (.own rfl), (.own rfl), trivial⟩⟩⟩, ⟨⟨rfl, .inl ⟨_, _, rfl, rfl, .arr rfl⟩⟩, ⟨⟨rfl, .inl ⟨_, _, rfl, rfl, .arr rfl⟩⟩, ⟨⟨rfl, .inl ⟨_, _, rfl, rfl, .arr rfl⟩⟩, ⟨⟨rfl, .inl ⟨_, _, rfl, rfl, .box ⟨.v, .v, .v, .v, trivial⟩⟩⟩, trivial⟩⟩⟩⟩⟩⟩))
          · intro s hS
            have H := HO118
            refine T.sub hS ?_
            refine T.seq ?_
            refine T.region ?_
            refine RunT.ot0 (x := .ptr 1 0) rfl rfl rfl rfl (.fieldPX fl26_0 rfl rfl) ?_
            refine RunT.ot0 (x := .own 2 0 v91.length) rfl rfl rfl rfl (.loadP ty22 rfl rfl rfl) ?_
            refine RunT.ot0 (x := .agg [.v (.int .i64 o108.1), .v (.int .i64 o108.2), .v (.int .i64 (wr (10 * o108.1))), .v (.int .i64 o116)]) rfl rfl rfl rfl (.loadP ty28 rfl rfl rfl) ?_
            refine RunT.ot1 (x := .own 8 0 (([Seat.mk o108.1 o108.2 (wr (10 * o108.1)) o116]).length)) (p0 := (8, some (.arr false 4 (List.map eSeat [Seat.mk o108.1 o108.2 (wr (10 * o108.1)) o116])))) (n' := 16) rfl rfl rfl rfl (.bslicem (d := false) (l := [Seat.mk o108.1 o108.2 (wr (10 * o108.1)) o116]) (f := eSeat) sl22 rfl rfl rfl enc_Seat rfl) rfl ?_
            obtain ⟨h122, H⟩ := gs H
            refine RunT.ot2 (x := .own 16 0 ((v91 ++ [Seat.mk o108.1 o108.2 (wr (10 * o108.1)) o116]).length)) (p0 := (16, some (.arr false 4 (List.map eSeat (v91 ++ [Seat.mk o108.1 o108.2 (wr (10 * o108.1)) o116]))))) (p1 := (2, none)) (n' := 24) rfl rfl rfl rfl (.appOn (d := false) (l := v91) (m := [Seat.mk o108.1 o108.2 (wr (10 * o108.1)) o116]) (f := eSeat) rfl sl22 rfl rfl rfl (.ownn Try.underlying22 rfl rfl (fun h => by cases h)) rfl h122) rfl ?_
            refine RunT.ot0 (x := .ptr 1 0) rfl rfl rfl rfl (.fieldPX fl26_0 rfl rfl) ?_
            refine RunT.on1 (x := .junk) (p0 := (1, some (.box [.own 16 0 ((v91 ++ [Seat.mk o108.1 o108.2 (wr (10 * o108.1)) o116]).length), .v (.int .i64 10), .v (.int .i64 v92), .own 3 0 v93.length, .own 4 0 v94.length]))) (n' := 32) rfl rfl rfl (.storePX ty22 rfl rfl rfl rfl rfl rfl rfl) rfl ?_
            refine RunT.nil ?_
            refine T.seq ?_
            refine T.seq ?_
            refine T.region ?_
            refine RunT.ot0 (x := .v (.int .u64 (IntKind.u64.wrap y104))) rfl rfl rfl rfl (.moveX rfl) ?_
            refine RunT.ot0 (x := .v (.int .u64 (IntKind.u64.wrap ((IntKind.u64.wrap y104).tdiv 42)))) rfl rfl rfl rfl (.bin rfl rfl (fun w => b_quo w (by decide)) rfl) ?_
            refine RunT.ot0 (x := .v (.int .u64 ((IntKind.u64.wrap ((IntKind.u64.wrap y104).tdiv 42)).tmod 9))) rfl rfl rfl rfl (.bin rfl rfl (fun w => b_rem w (by decide)) rfl) ?_
            refine RunT.ot0 (x := .v (.bool (decide (((IntKind.u64.wrap ((IntKind.u64.wrap y104).tdiv 42)).tmod 9) = 0)))) rfl rfl rfl rfl (.bin rfl rfl (fun w => b_eql w) rfl) ?_
            refine RunT.nil ?_
            obtain ⟨o125, E126, HO127⟩ := bs H
            refine T.cutE (⟨[(0, .lst (List.map eI a0)), (1, .v (.int .i64 a1)), (4, .ptr 0 0), (5, .ptr 1 0), (6, .v (.int .i64 o108.1)), (7, .v (.int .i64 o108.2)), (8, .v (.int .i64 v97)), (9, .v (.int .u64 (IntKind.u64.wrap y104)))], [(0, some (.box [.v (.slice none 0 0), .v (.int .i64 0), .v (.int .i64 0), .v (.slice none 0 0), .v (.slice none 0 0)])), (1, some (.box [.own 2 0 ((v91 ++ [Seat.mk o108.1 o108.2 (wr (10 * o108.1)) o116]).length), .v (.int .i64 10), .v (.int .i64 v92), .own 3 0 o125.length, .own 4 0 v94.length])), (2, some (.arr false 4 (List.map eSeat (v91 ++ [Seat.mk o108.1 o108.2 (wr (10 * o108.1)) o116])))), (3, some (.arr false 1 (List.map eI o125))), (4, some (.arr false 3 (List.map ePole v94)))], 8, []⟩) ?_ ?_
            · have H := E126
              refine T.cond2 (t := decide (((IntKind.u64.wrap ((IntKind.u64.wrap y104).tdiv 42)).tmod 9) = 0)) rfl (fun c128 => ?_) (fun c128 => ?_)
              · replace H := ct H c128
                refine T.region ?_
                refine RunT.ot0 (x := .ptr 1 3) rfl rfl rfl rfl (.fieldPX fl26_3 rfl rfl) ?_
                refine RunT.ot0 (x := .own 3 0 v93.length) rfl rfl rfl rfl (.loadP ty23 rfl rfl rfl) ?_
                refine RunT.ot0 (x := .ptr 1 0) rfl rfl rfl rfl (.fieldPX fl26_0 rfl rfl) ?_
                refine RunT.ot0 (x := .own 16 0 ((v91 ++ [Seat.mk o108.1 o108.2 (wr (10 * o108.1)) o116]).length)) rfl rfl rfl rfl (.loadP ty22 rfl rfl rfl) ?_
                refine RunT.ot0 (x := .v (.int .i64 ((v91 ++ [Seat.mk o108.1 o108.2 (wr (10 * o108.1)) o116]).length : Int))) rfl rfl rfl rfl (.lenON rfl Try.underlying22 rfl rfl) ?_
                refine RunT.ot0 (x := .v (.int .i64 (wr (((v91 ++ [Seat.mk o108.1 o108.2 (wr (10 * o108.1)) o116]).length : Int) - 1)))) rfl rfl rfl rfl (.bin rfl rfl (fun w => b_subw w) rfl) ?_
                refine RunT.ot1 (x := .own 32 0 (([wr (((v91 ++ [Seat.mk o108.1 o108.2 (wr (10 * o108.1)) o116]).length : Int) - 1)]).length)) (p0 := (32, some (.arr false 1 (List.map eI [wr (((v91 ++ [Seat.mk o108.1 o108.2 (wr (10 * o108.1)) o116]).length : Int) - 1)])))) (n' := 40) rfl rfl rfl rfl (.bslicem (d := false) (l := [wr (((v91 ++ [Seat.mk o108.1 o108.2 (wr (10 * o108.1)) o116]).length : Int) - 1)]) (f := eI) sl23 rfl rfl rfl enc_I rfl) rfl ?_
                obtain ⟨h129, H⟩ := gs H
                refine RunT.ot2 (x := .own 40 0 ((v93 ++ [wr (((v91 ++ [Seat.mk o108.1 o108.2 (wr (10 * o108.1)) o116]).length : Int) - 1)]).length)) (p0 := (40, some (.arr false 1 (List.map eI (v93 ++ [wr (((v91 ++ [Seat.mk o108.1 o108.2 (wr (10 * o108.1)) o116]).length : Int) - 1)]))))) (p1 := (3, none)) (n' := 48) rfl rfl rfl rfl (.appOn (d := false) (l := v93) (m := [wr (((v91 ++ [Seat.mk o108.1 o108.2 (wr (10 * o108.1)) o116]).length : Int) - 1)]) (f := eI) rfl sl23 rfl rfl rfl (.ownn Try.underlying23 rfl rfl (fun h => by cases h)) rfl h129) rfl ?_
                refine RunT.ot0 (x := .ptr 1 3) rfl rfl rfl rfl (.fieldPX fl26_3 rfl rfl) ?_
                refine RunT.on1 (x := .junk) (p0 := (1, some (.box [.own 16 0 ((v91 ++ [Seat.mk o108.1 o108.2 (wr (10 * o108.1)) o116]).length), .v (.int .i64 10), .v (.int .i64 v92), .own 40 0 ((v93 ++ [wr (((v91 ++ [Seat.mk o108.1 o108.2 (wr (10 * o108.1)) o116]).length : Int) - 1)]).length), .own 4 0 v94.length]))) (n' := 56) rfl rfl rfl (.storePX ty23 rfl rfl rfl rfl rfl rfl rfl) rfl ?_
                refine RunT.nil ?_
                obtain rfl := si H
                exact (sub_to [some 0, some 1, some 16, some 40, some 4] (by decide) rfl rfl (⟨⟨_, rfl, .one .lst⟩, ⟨⟨_, rfl, .one .v⟩, ⟨⟨_, rfl, .one (.ptr rfl)⟩, ⟨⟨_, rfl, .one (.ptr rfl)⟩, ⟨⟨_, rfl, .one .v⟩, ⟨⟨_, rfl, .one .v⟩, ⟨⟨_, rfl, .one .v⟩, ⟨⟨_, rfl, .one .v⟩, trivial⟩⟩⟩⟩⟩⟩⟩⟩) (⟨⟨rfl, .inl ⟨_, _, rfl, rfl, .box ⟨.v, .v, .v, .v, .v, trivial⟩⟩⟩, ⟨⟨rfl, .inl ⟨_, _, rfl, rfl, .box ⟨(.own rfl), .v, .v, (.own rfl), (.own rfl), trivial⟩⟩⟩, ⟨⟨rfl, .inl ⟨_, _, rfl, rfl, .arr rfl⟩⟩, ⟨⟨rfl, .inl ⟨_, _, rfl, rfl, .arr rfl⟩⟩, ⟨⟨rfl, .inl ⟨_, _, rfl, rfl, .arr rfl⟩⟩, trivial⟩⟩⟩⟩⟩))
              · replace H := cf H c128
                refine T.skip ?_
                obtain rfl := si H
                exact (sub_to [some 0, some 1, some 16, some 3, some 4] (by decide) rfl rfl (⟨⟨_, rfl, .one .lst⟩, ⟨⟨_, rfl, .one .v⟩, ⟨⟨_, rfl, .one (.ptr rfl)⟩, ⟨⟨_, rfl, .one (.ptr rfl)⟩, ⟨⟨_, rfl, .one .v⟩, ⟨⟨_, rfl, .one .v⟩, ⟨⟨_, rfl, .one .v⟩, ⟨⟨_, rfl, .one .v⟩, trivial⟩⟩⟩⟩⟩⟩⟩⟩) (⟨⟨rfl, .inl ⟨_, _, rfl, rfl, .box ⟨.v, .v, .v, .v, .v, trivial⟩⟩⟩, ⟨⟨rfl, .inl ⟨_, _, rfl, rfl, .box ⟨(.own rfl), .v, .v, (.own rfl), (.own rfl), trivial⟩⟩⟩, ⟨⟨rfl, .inl ⟨_, _, rfl, rfl, .arr rfl⟩⟩, ⟨⟨rfl, .inl ⟨_, _, rfl, rfl, .arr rfl⟩⟩, ⟨⟨rfl, .inl ⟨_, _, rfl, rfl, .arr rfl⟩⟩, trivial⟩⟩⟩⟩⟩))
            · intro s hS
              have H := HO127
              refine T.sub hS ?_
              refine T.seq ?_
              refine T.seq ?_
              refine T.sub (sub_pick [0, 1, 4, 5, 6, 7, 8, 9] [0, 1, 2, 3, 4] (st' := ⟨[(0, .lst (List.map eI a0)), (1, .v (.int .i64 a1)), (4, .ptr 0 0), (5, .ptr 1 0), (6, .v (.int .i64 o108.1)), (7, .v (.int .i64 o108.2)), (8, .v (.int .i64 v97)), (9, .v (.int .u64 (IntKind.u64.wrap y104)))], [(0, some (.box [.v (.slice none 0 0), .v (.int .i64 0), .v (.int .i64 0), .v (.slice none 0 0), .v (.slice none 0 0)])), (1, some (.box [.own 2 0 ((v91 ++ [Seat.mk o108.1 o108.2 (wr (10 * o108.1)) o116]).length), .v (.int .i64 10), .v (.int .i64 v92), .own 3 0 o125.length, .own 4 0 v94.length])), (2, some (.arr false 4 (List.map eSeat (v91 ++ [Seat.mk o108.1 o108.2 (wr (10 * o108.1)) o116])))), (3, some (.arr false 1 (List.map eI o125))), (4, some (.arr false 3 (List.map ePole v94)))], 8, []⟩) rfl rfl rfl rfl rfl) ?_
              refine T.region ?_
              refine RunT.ot0 (x := .v (.int .u64 (IntKind.u64.wrap y104))) rfl rfl rfl rfl (.moveX rfl) ?_
              refine RunT.ot0 (x := .v (.int .u64 (IntKind.u64.wrap ((IntKind.u64.wrap y104).tdiv 42)))) rfl rfl rfl rfl (.bin rfl rfl (fun w => b_quo w (by decide)) rfl) ?_
              refine RunT.ot0 (x := .v (.int .u64 ((IntKind.u64.wrap ((IntKind.u64.wrap y104).tdiv 42)).tmod 11))) rfl rfl rfl rfl (.bin rfl rfl (fun w => b_rem w (by decide)) rfl) ?_
              refine RunT.ot0 (x := .v (.bool (decide (((IntKind.u64.wrap ((IntKind.u64.wrap y104).tdiv 42)).tmod 11) = 1)))) rfl rfl rfl rfl (.bin rfl rfl (fun w => b_eql w) rfl) ?_
              refine RunT.nil ?_
              obtain ⟨o132, E133, HO134⟩ := bs H
              refine T.cutE (⟨[(0, .lst (List.map eI a0)), (1, .v (.int .i64 a1)), (4, .ptr 0 0), (5, .ptr 1 0), (6, .v (.int .i64 o108.1)), (7, .v (.int .i64 o108.2)), (8, .v (.int .i64 v97)), (9, .v (.int .u64 (IntKind.u64.wrap y104)))], [(0, some (.box [.v (.slice none 0 0), .v (.int .i64 0), .v (.int .i64 0), .v (.slice none 0 0), .v (.slice none 0 0)])), (1, some (.box [.own 2 0 ((v91 ++ [Seat.mk o108.1 o108.2 (wr (10 * o108.1)) o116]).length), .v (.int .i64 10), .v (.int .i64 v92), .own 3 0 o125.length, .own 4 0 o132.length])), (2, some (.arr false 4 (List.map eSeat (v91 ++ [Seat.mk o108.1 o108.2 (wr (10 * o108.1)) o116])))), (3, some (.arr false 1 (List.map eI o125))), (4, some (.arr false 3 (List.map ePole o132)))], 8, []⟩) ?_ ?_
              · have H := E133
                refine T.cond2 (t := decide (((IntKind.u64.wrap ((IntKind.u64.wrap y104).tdiv 42)).tmod 11) = 1)) rfl (fun c135 => ?_) (fun c135 => ?_)
                · replace H := ct H c135
                  refine T.sub (sub_pick [0, 1, 4, 5, 6, 7, 8, 9] [0, 1, 2, 3, 4] (st' := ⟨[(0, .lst (List.map eI a0)), (1, .v (.int .i64 a1)), (4, .ptr 0 0), (5, .ptr 1 0), (6, .v (.int .i64 o108.1)), (7, .v (.int .i64 o108.2)), (8, .v (.int .i64 v97)), (9, .v (.int .u64 (IntKind.u64.wrap y104)))], [(0, some (.box [.v (.slice none 0 0), .v (.int .i64 0), .v (.int .i64 0), .v (.slice none 0 0), .v (.slice none 0 0)])), (1, some (.box [.own 2 0 ((v91 ++ [Seat.mk o108.1 o108.2 (wr (10 * o108.1)) o116]).length), .v (.int .i64 10), .v (.int .i64 v92), .own 3 0 o125.length, .own 4 0 v94.length])), (2, some (.arr false 4 (List.map eSeat (v91 ++ [Seat.mk o108.1 o108.2 (wr (10 * o108.1)) o116])))), (3, some (.arr false 1 (List.map eI o125))), (4, some (.arr false 3 (List.map ePole v94)))], 8, []⟩) rfl rfl rfl rfl rfl) ?_
                  refine T.region ?_
                  refine RunT.ot0 (x := .ptr 1 4) rfl rfl rfl rfl (.fieldPX fl26_4 rfl rfl) ?_
                  refine RunT.ot0 (x := .own 4 0 v94.length) rfl rfl rfl rfl (.loadP ty24 rfl rfl rfl) ?_
                  refine RunT.ot0 (x := .v (.int .i64 o108.2)) rfl rfl rfl rfl (.moveX rfl) ?_
                  refine RunT.ot0 (x := .v (.int .i64 o108.1)) rfl rfl rfl rfl (.moveX rfl) ?_
                  refine RunT.ot0 (x := .v (.int .i64 (wr (10 * o108.1)))) rfl rfl rfl rfl (.bin rfl rfl (fun w => b_mulw w) rfl) ?_
                  refine RunT.ot0 (x := .v (.int .u64 (IntKind.u64.wrap y104))) rfl rfl rfl rfl (.moveX rfl) ?_
                  refine RunT.ot0 (x := .v (.int .u64 (IntKind.u64.wrap ((IntKind.u64.wrap y104).tdiv 500)))) rfl rfl rfl rfl (.bin rfl rfl (fun w => b_quo w (by decide)) rfl) ?_
                  refine RunT.ot0 (x := .v (.int .u64 ((IntKind.u64.wrap ((IntKind.u64.wrap y104).tdiv 500)).tmod 12))) rfl rfl rfl rfl (.bin rfl rfl (fun w => b_rem w (by decide)) rfl) ?_
                  refine RunT.ot0 (x := .v (.int .i64 (wr ((IntKind.u64.wrap ((IntKind.u64.wrap y104).tdiv 500)).tmod 12)))) rfl rfl rfl rfl (.conv rfl (fun w => c_intw w ⟨_, Try.underlying41⟩ Try.underlying3) rfl) ?_
                  refine RunT.ot0 (x := .v (.int .i64 (wr (1 + (wr ((IntKind.u64.wrap ((IntKind.u64.wrap y104).tdiv 500)).tmod 12)))))) rfl rfl rfl rfl (.bin rfl rfl (fun w => b_addw w) rfl) ?_
                  refine RunT.ot0 (x := .agg [.v (.int .i64 o108.2), .v (.int .i64 (wr (10 * o108.1))), .v (.int .i64 (wr (1 + (wr ((IntKind.u64.wrap ((IntKind.u64.wrap y104).tdiv 500)).tmod 12)))))]) rfl rfl rfl rfl (.bu bu60 rfl) ?_
                  refine RunT.ot1 (x := .own 8 0 (([Pole.mk o108.2 (wr (10 * o108.1)) (wr (1 + (wr ((IntKind.u64.wrap ((IntKind.u64.wrap y104).tdiv 500)).tmod 12))))]).length)) (p0 := (8, some (.arr false 3 (List.map ePole [Pole.mk o108.2 (wr (10 * o108.1)) (wr (1 + (wr ((IntKind.u64.wrap ((IntKind.u64.wrap y104).tdiv 500)).tmod 12))))])))) (n' := 16) rfl rfl rfl rfl (.bslicem (d := false) (l := [Pole.mk o108.2 (wr (10 * o108.1)) (wr (1 + (wr ((IntKind.u64.wrap ((IntKind.u64.wrap y104).tdiv 500)).tmod 12))))]) (f := ePole) sl24 rfl rfl rfl enc_Pole rfl) rfl ?_
                  obtain ⟨h136, H⟩ := gs H
                  refine RunT.ot2 (x := .own 16 0 ((v94 ++ [Pole.mk o108.2 (wr (10 * o108.1)) (wr (1 + (wr ((IntKind.u64.wrap ((IntKind.u64.wrap y104).tdiv 500)).tmod 12))))]).length)) (p0 := (16, some (.arr false 3 (List.map ePole (v94 ++ [Pole.mk o108.2 (wr (10 * o108.1)) (wr (1 + (wr ((IntKind.u64.wrap ((IntKind.u64.wrap y104).tdiv 500)).tmod 12))))]))))) (p1 := (4, none)) (n' := 24) rfl rfl rfl rfl (.appOn (d := false) (l := v94) (m := [Pole.mk o108.2 (wr (10 * o108.1)) (wr (1 + (wr ((IntKind.u64.wrap ((IntKind.u64.wrap y104).tdiv 500)).tmod 12))))]) (f := ePole) rfl sl24 rfl rfl rfl (.ownn Try.underlying24 rfl rfl (fun h => by cases h)) rfl h136) rfl ?_
                  refine RunT.ot0 (x := .ptr 1 4) rfl rfl rfl rfl (.fieldPX fl26_4 rfl rfl) ?_
                  refine RunT.on1 (x := .junk) (p0 := (1, some (.box [.own 2 0 ((v91 ++ [Seat.mk o108.1 o108.2 (wr (10 * o108.1)) o116]).length), .v (.int .i64 10), .v (.int .i64 v92), .own 3 0 o125.length, .own 16 0 ((v94 ++ [Pole.mk o108.2 (wr (10 * o108.1)) (wr (1 + (wr ((IntKind.u64.wrap ((IntKind.u64.wrap y104).tdiv 500)).tmod 12))))]).length)]))) (n' := 32) rfl rfl rfl (.storePX ty24 rfl rfl rfl rfl rfl rfl rfl) rfl ?_
                  refine RunT.nil ?_
                  obtain rfl := si H
                  exact (sub_to [some 0, some 1, some 2, some 3, some 16] (by decide) rfl rfl (⟨⟨_, rfl, .one .lst⟩, ⟨⟨_, rfl, .one .v⟩, ⟨⟨_, rfl, .one (.ptr rfl)⟩, ⟨⟨_, rfl, .one (.ptr rfl)⟩, ⟨⟨_, rfl, .one .v⟩, ⟨⟨_, rfl, .one .v⟩, ⟨⟨_, rfl, .one .v⟩, ⟨⟨_, rfl, .one .v⟩, trivial⟩⟩⟩⟩⟩⟩⟩⟩) (⟨⟨rfl, .inl ⟨_, _, rfl, rfl, .box ⟨.v, .v, .v, .v, .v, trivial⟩⟩⟩, ⟨⟨rfl, .inl ⟨_, _, rfl, rfl, .box ⟨(.own rfl), .v, .v, (.own rfl), (.own rfl), trivial⟩⟩⟩, ⟨⟨rfl, .inl ⟨_, _, rfl, rfl, .arr rfl⟩⟩, ⟨⟨rfl, .inl ⟨_, _, rfl, rfl, .arr rfl⟩⟩, ⟨⟨rfl, .inl ⟨_, _, rfl, rfl, .arr rfl⟩⟩, trivial⟩⟩⟩⟩⟩))
                · replace H := cf H c135
                  refine T.skip ?_
                  obtain rfl := si H
                  exact (sub_to [some 0, some 1, some 2, some 3, some 4] (by decide) rfl rfl (⟨⟨_, rfl, .one .lst⟩, ⟨⟨_, rfl, .one .v⟩, ⟨⟨_, rfl, .one (.ptr rfl)⟩, ⟨⟨_, rfl, .one (.ptr rfl)⟩, ⟨⟨_, rfl, .one .v⟩, ⟨⟨_, rfl, .one .v⟩, ⟨⟨_, rfl, .one .v⟩, ⟨⟨_, rfl, .one .v⟩, trivial⟩⟩⟩⟩⟩⟩⟩⟩) (⟨⟨rfl, .inl ⟨_, _, rfl, rfl, .box ⟨.v, .v, .v, .v, .v, trivial⟩⟩⟩, ⟨⟨rfl, .inl ⟨_, _, rfl, rfl, .box ⟨(.own rfl), .v, .v, (.own rfl), (.own rfl), trivial⟩⟩⟩, ⟨⟨rfl, .inl ⟨_, _, rfl, rfl, .arr rfl⟩⟩, ⟨⟨rfl, .inl ⟨_, _, rfl, rfl, .arr rfl⟩⟩, ⟨⟨rfl, .inl ⟨_, _, rfl, rfl, .arr rfl⟩⟩, trivial⟩⟩⟩⟩⟩))
              · intro s hS
                have H := HO134
                refine T.sub hS ?_
                refine T.seq ?_
                refine T.region ?_
                refine RunT.ot0 (x := .v (.int .u64 (IntKind.u64.wrap y104))) rfl rfl rfl rfl (.moveX rfl) ?_
                refine RunT.ot0 (x := .v (.int .u64 (IntKind.u64.wrap ((IntKind.u64.wrap y104).tdiv 42)))) rfl rfl rfl rfl (.bin rfl rfl (fun w => b_quo w (by decide)) rfl) ?_
                refine RunT.ot0 (x := .v (.int .u64 ((IntKind.u64.wrap ((IntKind.u64.wrap y104).tdiv 42)).tmod 5))) rfl rfl rfl rfl (.bin rfl rfl (fun w => b_rem w (by decide)) rfl) ?_
                refine RunT.ot0 (x := .v (.bool (decide (((IntKind.u64.wrap ((IntKind.u64.wrap y104).tdiv 42)).tmod 5) = 3)))) rfl rfl rfl rfl (.bin rfl rfl (fun w => b_eql w) rfl) ?_
                refine RunT.nil ?_
                refine T.cond2 (t := decide (((IntKind.u64.wrap ((IntKind.u64.wrap y104).tdiv 42)).tmod 5) = 3)) rfl (fun c137 => ?_) (fun c137 => ?_)
                · replace H := ct H c137
                  refine T.sub (sub_pick [0, 1, 4, 5, 6, 7, 8, 9] [0, 1, 2, 3, 4] (st' := ⟨[(0, .lst (List.map eI a0)), (1, .v (.int .i64 a1)), (4, .ptr 0 0), (5, .ptr 1 0), (6, .v (.int .i64 o108.1)), (7, .v (.int .i64 o108.2)), (8, .v (.int .i64 v97)), (9, .v (.int .u64 (IntKind.u64.wrap y104)))], [(0, some (.box [.v (.slice none 0 0), .v (.int .i64 0), .v (.int .i64 0), .v (.slice none 0 0), .v (.slice none 0 0)])), (1, some (.box [.own 2 0 ((v91 ++ [Seat.mk o108.1 o108.2 (wr (10 * o108.1)) o116]).length), .v (.int .i64 10), .v (.int .i64 v92), .own 3 0 o125.length, .own 4 0 o132.length])), (2, some (.arr false 4 (List.map eSeat (v91 ++ [Seat.mk o108.1 o108.2 (wr (10 * o108.1)) o116])))), (3, some (.arr false 1 (List.map eI o125))), (4, some (.arr false 3 (List.map ePole o132)))], 8, []⟩) rfl rfl rfl rfl rfl) ?_
                  refine T.region ?_
                  refine RunT.ot0 (x := .v (.int .u64 (IntKind.u64.wrap y104))) rfl rfl rfl rfl (.moveX rfl) ?_
                  refine RunT.ot0 (x := .v (.int .u64 (IntKind.u64.wrap ((IntKind.u64.wrap y104).tdiv 300)))) rfl rfl rfl rfl (.bin rfl rfl (fun w => b_quo w (by decide)) rfl) ?_
                  refine RunT.ot0 (x := .v (.int .u64 ((IntKind.u64.wrap ((IntKind.u64.wrap y104).tdiv 300)).tmod 25))) rfl rfl rfl rfl (.bin rfl rfl (fun w => b_rem w (by decide)) rfl) ?_
                  refine RunT.ot0 (x := .v (.int .i64 (wr ((IntKind.u64.wrap ((IntKind.u64.wrap y104).tdiv 300)).tmod 25)))) rfl rfl rfl rfl (.conv rfl (fun w => c_intw w ⟨_, Try.underlying41⟩ Try.underlying3) rfl) ?_
                  refine RunT.ot0 (x := .ptr 1 2) rfl rfl rfl rfl (.fieldPX fl26_2 rfl rfl) ?_
                  refine RunT.on1 (x := .junk) (p0 := (1, some (.box [.own 2 0 ((v91 ++ [Seat.mk o108.1 o108.2 (wr (10 * o108.1)) o116]).length), .v (.int .i64 10), .v (.int .i64 (wr ((IntKind.u64.wrap ((IntKind.u64.wrap y104).tdiv 300)).tmod 25))), .own 3 0 o125.length, .own 4 0 o132.length]))) (n' := 16) rfl rfl rfl (.storePX ty3 rfl rfl rfl rfl rfl rfl rfl) rfl ?_
                  refine RunT.nil ?_
                  refine T.region ?_
                  refine RunT.ot0 (x := .v (.int .i64 v97)) rfl rfl rfl rfl (.moveX rfl) ?_
                  refine RunT.ot0 (x := .v (.int .i64 (wr (v97 + 1)))) rfl rfl rfl rfl (.bin rfl rfl (fun w => b_addw w) rfl) ?_
                  refine RunT.ot0 (x := .v (.int .i64 (wr (v97 + 1)))) rfl rfl rfl rfl (.assignX rfl) ?_
                  refine RunT.nil ?_
                  exact ⟨n, Nat.lt_succ_self n, _, ⟨v91 ++ [Seat.mk o108.1 o108.2 (wr (10 * o108.1)) o116], wr ((IntKind.u64.wrap ((IntKind.u64.wrap y104).tdiv 300)).tmod 25), o125, o132, o108.1, o108.2, wr (v97 + 1), H, rfl⟩, (sub_to [some 0, some 1, some 2, some 3, some 4] (by decide) rfl rfl (⟨⟨_, rfl, .one .lst⟩, ⟨⟨_, rfl, .one .v⟩, ⟨⟨_, rfl, .one (.ptr rfl)⟩, ⟨⟨_, rfl, .one (.ptr rfl)⟩, ⟨⟨_, rfl, .one .v⟩, ⟨⟨_, rfl, .one .v⟩, ⟨⟨_, rfl, .one .v⟩, trivial⟩⟩⟩⟩⟩⟩⟩) (⟨⟨rfl, .inl ⟨_, _, rfl, rfl, .box ⟨.v, .v, .v, .v, .v, trivial⟩⟩⟩, ⟨⟨rfl, .inl ⟨_, _, rfl, rfl, .box ⟨(.own rfl), .v, .v, (.own rfl), (.own rfl), trivial⟩⟩⟩, ⟨⟨rfl, .inl ⟨_, _, rfl, rfl, .arr rfl⟩⟩, ⟨⟨rfl, .inl ⟨_, _, rfl, rfl, .arr rfl⟩⟩, ⟨⟨rfl, .inl ⟨_, _, rfl, rfl, .arr rfl⟩⟩, trivial⟩⟩⟩⟩⟩))⟩
                · replace H := cf H c137
                  refine T.skip ?_
                  refine T.region ?_
                  refine RunT.ot0 (x := .v (.int .i64 v97)) rfl rfl rfl rfl (.moveX rfl) ?_
                  refine RunT.ot0 (x := .v (.int .i64 (wr (v97 + 1)))) rfl rfl rfl rfl (.bin rfl rfl (fun w => b_addw w) rfl) ?_
                  refine RunT.ot0 (x := .v (.int .i64 (wr (v97 + 1)))) rfl rfl rfl rfl (.assignX rfl) ?_
                  refine RunT.nil ?_
                  exact ⟨n, Nat.lt_succ_self n, _, ⟨v91 ++ [Seat.mk o108.1 o108.2 (wr (10 * o108.1)) o116], v92, o125, o132, o108.1, o108.2, wr (v97 + 1), H, rfl⟩, (sub_to [some 0, some 1, some 2, some 3, some 4] (by decide) rfl rfl (⟨⟨_, rfl, .one .lst⟩, ⟨⟨_, rfl, .one .v⟩, ⟨⟨_, rfl, .one (.ptr rfl)⟩, ⟨⟨_, rfl, .one (.ptr rfl)⟩, ⟨⟨_, rfl, .one .v⟩, ⟨⟨_, rfl, .one .v⟩, ⟨⟨_, rfl, .one .v⟩, trivial⟩⟩⟩⟩⟩⟩⟩) (⟨⟨rfl, .inl ⟨_, _, rfl, rfl, .box ⟨.v, .v, .v, .v, .v, trivial⟩⟩⟩, ⟨⟨rfl, .inl ⟨_, _, rfl, rfl, .box ⟨(.own rfl), .v, .v, (.own rfl), (.own rfl), trivial⟩⟩⟩, ⟨⟨rfl, .inl ⟨_, _, rfl, rfl, .arr rfl⟩⟩, ⟨⟨rfl, .inl ⟨_, _, rfl, rfl, .arr rfl⟩⟩, ⟨⟨rfl, .inl ⟨_, _, rfl, rfl, .arr rfl⟩⟩, trivial⟩⟩⟩⟩⟩))⟩
      · replace H := cf H c103
        refine T.exit ?_
        obtain rfl := si H
        exact (sub_to [some 0, some 1, some 2, some 3, some 4] (by decide) rfl rfl (⟨⟨_, rfl, .one (.ptr rfl)⟩, ⟨⟨_, rfl, .one (.ptr rfl)⟩, trivial⟩⟩) (⟨⟨rfl, .inl ⟨_, _, rfl, rfl, .box ⟨.v, .v, .v, .v, .v, trivial⟩⟩⟩, ⟨⟨rfl, .inl ⟨_, _, rfl, rfl, .box ⟨(.own rfl), .v, .v, (.own rfl), (.own rfl), trivial⟩⟩⟩, ⟨⟨rfl, .inl ⟨_, _, rfl, rfl, .arr rfl⟩⟩, ⟨⟨rfl, .inl ⟨_, _, rfl, rfl, .arr rfl⟩⟩, ⟨⟨rfl, .inl ⟨_, _, rfl, rfl, .arr rfl⟩⟩, trivial⟩⟩⟩⟩⟩))
  · intro s hS
    have H := HO90
    refine T.sub hS ?_
    refine T.seq ?_
    refine T.region ?_
    refine RunT.ot0 (x := .agg [.own 2 0 o88.1.length, .v (.int .i64 10), .v (.int .i64 o88.2.1), .own 3 0 o88.2.2.1.length, .own 4 0 o88.2.2.2.length]) rfl rfl rfl rfl (.loadP ty26 rfl rfl rfl) ?_
    refine RunT.on1 (x := .junk) (p0 := (0, some (.box [.own 2 0 o88.1.length, .v (.int .i64 10), .v (.int .i64 o88.2.1), .own 3 0 o88.2.2.1.length, .own 4 0 o88.2.2.2.length]))) (n' := 16) rfl rfl rfl (.storePX ty26 rfl rfl rfl rfl rfl rfl rfl) rfl ?_
    refine RunT.nil ?_
    obtain rfl := si H
    refine T.sub (sub_to (st' := ⟨[(4, .ptr 3 0)], [(0, some (.arr false 4 (List.map eSeat o88.1))), (1, some (.arr false 1 (List.map eI o88.2.2.1))), (2, some (.arr false 3 (List.map ePole o88.2.2.2))), (3, some (.box [.own 0 0 ((List.map eSeat o88.1).length), .v (.int .i64 10), .v (.int .i64 o88.2.1), .own 1 0 ((List.map eI o88.2.2.1).length), .own 2 0 ((List.map ePole o88.2.2.2).length)]))], 8, []⟩) [some 2, some 3, some 4, some 0] (by decide) rfl rfl (⟨⟨_, rfl, .one (.ptr rfl)⟩, trivial⟩) (⟨⟨rfl, .inl ⟨_, _, rfl, rfl, .arr rfl⟩⟩, ⟨⟨rfl, .inl ⟨_, _, rfl, rfl, .arr rfl⟩⟩, ⟨⟨rfl, .inl ⟨_, _, rfl, rfl, .arr rfl⟩⟩, ⟨⟨rfl, .inl ⟨_, _, rfl, rfl, .box ⟨(.own' rfl (List.length_map _).symm), .v, .v, (.own' rfl (List.length_map _).symm), (.own' rfl (List.length_map _).symm), trivial⟩⟩⟩, trivial⟩⟩⟩⟩)) ?_
    refine T.ret ?_
    exact RetOk.same [.agg [.own 0 0 ((List.map eSeat o88.1).length), .v (.int .i64 10), .v (.int .i64 o88.2.1), .own 1 0 ((List.map eI o88.2.2.1).length), .own 2 0 ((List.map ePole o88.2.2.2).length)]] ⟨⟨3, 0, _, _, _, ty26, rfl, rfl, rfl⟩, trivial⟩ rfl rfl rfl
set_option maxHeartbeats 4000000 in
theorem ref6_SameInts_pc (al : Bool) (k : Nat) (a0 : (List Int)) (a1 : (List Int)) (o : Bool) (H : ref6_SameInts k a0 a1 = some o) : PC Try.prog al 34 [.lst (List.map eI a0), .lst (List.map eI a1)] (.v (.bool o)) := by
  unfold ref6_SameInts at H
  refine PC.of_T Try.func34 rfl rfl (n := 26) rfl rfl (.inr rfl) ?_
  intro base B w0
  refine T.st (st' := ⟨[(0, .lst (List.map eI a0)), (1, .lst (List.map eI a1))], [], 0, []⟩) rfl ?_
  refine T.seq ?_
  refine T.region ?_
  refine RunT.ot0 (x := .v (.bool false)) rfl rfl rfl rfl (.assignX rfl) ?_
  refine RunT.nil ?_
  refine T.seq ?_
  refine T.seq ?_
  refine T.region ?_
  refine RunT.ot0 (x := .lst (List.map eI a0)) rfl rfl rfl rfl (.moveX rfl) ?_
  refine RunT.ot0 (x := .v (.int .i64 (a0.length : Int))) rfl rfl rfl rfl (.lenLm Try.underlying23 rfl rfl) ?_
  refine RunT.ot0 (x := .lst (List.map eI a1)) rfl rfl rfl rfl (.moveX rfl) ?_
  refine RunT.ot0 (x := .v (.int .i64 (a1.length : Int))) rfl rfl rfl rfl (.lenLm Try.underlying23 rfl rfl) ?_
  refine RunT.ot0 (x := .v (.bool (!decide ((a0.length : Int) = (a1.length : Int))))) rfl rfl rfl rfl (.bin rfl rfl (fun w => b_neq w) rfl) ?_
  refine RunT.nil ?_
  refine T.cond2 (t := !decide ((a0.length : Int) = (a1.length : Int))) rfl (fun c1 => ?_) (fun c1 => ?_)
  · replace H := ct H c1
    refine T.seq ?_
    refine T.region ?_
    refine RunT.ot0 (x := .v (.bool false)) rfl rfl rfl rfl (.assignX rfl) ?_
    refine RunT.nil ?_
    obtain rfl := si H
    refine T.sub (sub_to (st' := ⟨[(4, .v (.bool false))], [], 8, []⟩) [] (by decide) rfl rfl (⟨⟨_, rfl, .one .v⟩, trivial⟩) (trivial)) ?_
    refine T.ret ?_
    exact RetOk.same [.v (.bool false)] ⟨rfl, trivial⟩ rfl rfl rfl
  · replace H := cf H c1
    refine T.skip ?_
    refine T.seq ?_
    refine T.seq ?_
    refine T.region ?_
    refine RunT.ot0 (x := .v (.int .i64 0)) rfl rfl rfl rfl (.assignX rfl) ?_
    refine RunT.nil ?_
    obtain ⟨o15, E16, HO17⟩ := bs H
    refine T.cutPE (fun v18 => o15 = .go v18) (fun v18 => ⟨[], [], 8, []⟩) ?_ ?_
    · have H := E16
      refine T.block ?_
      refine T.loopS (fun n s => ∃ (v19 : Int), ref6_SameInts_l0 k a0 a1 n v19 = some o15 ∧ s = ⟨[(0, .lst (List.map eI a0)), (1, .lst (List.map eI a1)), (5, .v (.int .i64 v19))], [], 8, []⟩) k ⟨_, ⟨0, H, rfl⟩, sub_to [] (by decide) rfl rfl (⟨⟨_, rfl, .one .lst⟩, ⟨⟨_, rfl, .one .lst⟩, ⟨⟨_, rfl, .one .v⟩, trivial⟩⟩⟩) (trivial)⟩ ?_
      rintro n s ⟨v19, H, rfl⟩
      rcases n with _ | n
      · cases (show none = some _ from H)
      rw [ref6_SameInts_l0] at H
      refine T.seq ?_
      refine T.seq ?_
      refine T.region ?_
      refine RunT.ot0 (x := .v (.int .i64 v19)) rfl rfl rfl rfl (.moveX rfl) ?_
      refine RunT.ot0 (x := .lst (List.map eI a0)) rfl rfl rfl rfl (.moveX rfl) ?_
      refine RunT.ot0 (x := .v (.int .i64 (a0.length : Int))) rfl rfl rfl rfl (.lenLm Try.underlying23 rfl rfl) ?_
      refine RunT.ot0 (x := .v (.bool (decide (v19 < (a0.length : Int))))) rfl rfl rfl rfl (.bin rfl rfl (fun w => b_lss w) rfl) ?_
      refine RunT.nil ?_
      refine T.cond2 (t := decide (v19 < (a0.length : Int))) rfl (fun c20 => ?_) (fun c20 => ?_)
      · replace H := ct H c20
        refine T.skip ?_
        refine T.seq ?_
        refine T.block ?_
        refine T.seq ?_
        refine T.draw (wr := []) mixed rfl rfl ?_ rfl
        refine RunD.ot0 (x := .lst (List.map eI a0)) rfl rfl rfl rfl (.moveX rfl) rfl ?_
        refine RunD.ot0 (x := .v (.int .i64 v19)) rfl rfl rfl rfl (.moveX rfl) rfl ?_
        obtain ⟨y25, h26, H⟩ := bs H
        refine RunD.ot0 (x := .rptr [.v (.int .i64 y25)]) rfl rfl rfl rfl (.idxLX h26 enc_I sl23 rfl rfl rfl) rfl ?_
        refine RunD.ot0 (x := .v (.int .i64 y25)) rfl rfl rfl rfl (.loadR ty3 rfl rfl) rfl ?_
        refine RunD.ot0 (x := .lst (List.map eI a1)) rfl rfl rfl rfl (.moveX rfl) rfl ?_
        refine RunD.ot0 (x := .v (.int .i64 v19)) rfl rfl rfl rfl (.moveX rfl) rfl ?_
        obtain ⟨y27, h28, H⟩ := bs H
        refine RunD.ot0 (x := .rptr [.v (.int .i64 y27)]) rfl rfl rfl rfl (.idxLX h28 enc_I sl23 rfl rfl rfl) rfl ?_
        refine RunD.ot0 (x := .v (.int .i64 y27)) rfl rfl rfl rfl (.loadR ty3 rfl rfl) rfl ?_
        refine RunD.ot0 (x := .v (.bool (!decide (y25 = y27)))) rfl rfl rfl rfl (.bin rfl rfl (fun w => b_neq w) rfl) rfl ?_
        refine RunD.nil (by kernel_rfl) ⟨rfl, rfl, ?_⟩
        refine T.cond2 (t := !decide (y25 = y27)) rfl (fun c29 => ?_) (fun c29 => ?_)
        · replace H := ct H c29
          refine T.seq ?_
          refine T.sub (sub_pick [] [] (st' := ⟨[], [], 80, []⟩) rfl rfl rfl rfl rfl) ?_
          refine T.region ?_
          refine RunT.ot0 (x := .v (.bool false)) rfl rfl rfl rfl (.assignX rfl) ?_
          refine RunT.nil ?_
          obtain rfl := si H
          have HX := exr HO17
          obtain rfl := si HX
          refine T.sub (sub_to (st' := ⟨[(4, .v (.bool false))], [], 8, []⟩) [] (by decide) rfl rfl (⟨⟨_, rfl, .one .v⟩, trivial⟩) (trivial)) ?_
          refine T.ret ?_
          exact RetOk.same [.v (.bool false)] ⟨rfl, trivial⟩ rfl rfl rfl
        · replace H := cf H c29
          refine T.skip ?_
          refine T.region ?_
          refine RunT.ot0 (x := .v (.int .i64 v19)) rfl rfl rfl rfl (.moveX rfl) ?_
          refine RunT.ot0 (x := .v (.int .i64 (wr (v19 + 1)))) rfl rfl rfl rfl (.bin rfl rfl (fun w => b_addw w) rfl) ?_
          refine RunT.ot0 (x := .v (.int .i64 (wr (v19 + 1)))) rfl rfl rfl rfl (.assignX rfl) ?_
          refine RunT.nil ?_
          exact ⟨n, Nat.lt_succ_self n, _, ⟨wr (v19 + 1), H, rfl⟩, (sub_to [] (by decide) rfl rfl (⟨⟨_, rfl, .one .lst⟩, ⟨⟨_, rfl, .one .lst⟩, ⟨⟨_, rfl, .one .v⟩, trivial⟩⟩⟩) (trivial))⟩
      · replace H := cf H c20
        refine T.exit ?_
        obtain rfl := si H
        exact ⟨_, rfl, (sub_to [] (by decide) rfl rfl (trivial) (trivial))⟩
    · intro v18 s hR hS
      subst hR
      have H := exg HO17
      refine T.sub hS ?_
      refine T.seq ?_
      refine T.region ?_
      refine RunT.ot0 (x := .v (.bool true)) rfl rfl rfl rfl (.assignX rfl) ?_
      refine RunT.nil ?_
      obtain rfl := si H
      refine T.sub (sub_to (st' := ⟨[(4, .v (.bool true))], [], 8, []⟩) [] (by decide) rfl rfl (⟨⟨_, rfl, .one .v⟩, trivial⟩) (trivial)) ?_
      refine T.ret ?_
      exact RetOk.same [.v (.bool true)] ⟨rfl, trivial⟩ rfl rfl rfl
set_option maxHeartbeats 4000000 in
theorem venue_in_pc (al : Bool) (k : Nat) (a0 : Int) (a1 : Int) (a2 : Int) (o : Bool) (H : venue_in k a0 a1 a2 = some o) : PC Try.prog al 130 [.v (.int .i64 a0), .v (.int .i64 a1), .v (.int .i64 a2)] (.v (.bool o)) := by
  unfold venue_in at H
  refine PC.of_T Try.func130 rfl rfl (n := 15) rfl rfl (.inr rfl) ?_
  intro base B w0
  refine T.st (st' := ⟨[(0, .v (.int .i64 a0)), (1, .v (.int .i64 a1)), (2, .v (.int .i64 a2))], [], 0, []⟩) rfl ?_
  refine T.seq ?_
  refine T.region ?_
  refine RunT.ot0 (x := .v (.bool false)) rfl rfl rfl rfl (.assignX rfl) ?_
  refine RunT.nil ?_
  refine T.seq ?_
  refine T.region ?_
  refine RunT.ot0 (x := .v (.int .i64 a0)) rfl rfl rfl rfl (.moveX rfl) ?_
  refine RunT.ot0 (x := .v (.int .i64 a1)) rfl rfl rfl rfl (.moveX rfl) ?_
  refine RunT.ot0 (x := .v (.bool (decide (a1 ≤ a0)))) rfl rfl rfl rfl (.bin rfl rfl (fun w => b_geq w) rfl) ?_
  refine RunT.ot0 (x := .v (.bool (decide (a1 ≤ a0)))) rfl rfl rfl rfl (.moveX rfl) ?_
  refine RunT.cases (t := 10) (c := decide (a1 ≤ a0)) rfl (fun g1 => ?_) (fun g1 => ?_)
  · replace H := ct H g1
    refine RunT.gt0 (x := .v (.int .i64 a0)) rfl rfl rfl (bo g1) rfl rfl (.moveX rfl) ?_
    refine RunT.gt0 (x := .v (.int .i64 a2)) rfl rfl rfl (bo g1) rfl rfl (.moveX rfl) ?_
    refine RunT.gt0 (x := .v (.bool (decide (a0 ≤ a2)))) rfl rfl rfl (bo g1) rfl rfl (.bin rfl rfl (fun w => b_leq w) rfl) ?_
    refine RunT.ot0 (x := .v (.bool (decide (a0 ≤ a2)))) rfl rfl rfl rfl (.pickT (bo g1) rfl) ?_
    refine RunT.ot0 (x := .v (.bool (decide (a0 ≤ a2)))) rfl rfl rfl rfl (.assignX rfl) ?_
    refine RunT.nil ?_
    obtain rfl := si H
    refine T.sub (sub_to (st' := ⟨[(6, .v (.bool (decide (a0 ≤ a2))))], [], 8, []⟩) [] (by decide) rfl rfl (⟨⟨_, rfl, .one .v⟩, trivial⟩) (trivial)) ?_
    refine T.ret ?_
    exact RetOk.same [.v (.bool (decide (a0 ≤ a2)))] ⟨rfl, trivial⟩ rfl rfl rfl
  · replace H := cf H g1
    refine RunT.xn rfl rfl rfl (bo g1) rfl rfl ?_
    refine RunT.xn rfl rfl rfl (bo g1) rfl rfl ?_
    refine RunT.xn rfl rfl rfl (bo g1) rfl rfl ?_
    refine RunT.ot0 (x := .v (.bool false)) rfl rfl rfl rfl (.pickF (bo g1) rfl) ?_
    refine RunT.ot0 (x := .v (.bool false)) rfl rfl rfl rfl (.assignX rfl) ?_
    refine RunT.nil ?_
    obtain rfl := si H
    refine T.sub (sub_to (st' := ⟨[(6, .v (.bool false))], [], 8, []⟩) [] (by decide) rfl rfl (⟨⟨_, rfl, .one .v⟩, trivial⟩) (trivial)) ?_
    refine T.ret ?_
    exact RetOk.same [.v (.bool false)] ⟨rfl, trivial⟩ rfl rfl rfl
set_option maxHeartbeats 4000000 in
theorem venue_Reach_pc (al : Bool) (k : Nat) (a0 : Int) (o : Bool) (H : venue_Reach k a0 = some o) : PC Try.prog al 95 [.v (.int .i64 a0)] (.v (.bool o)) := by
  unfold venue_Reach at H
  refine PC.of_T Try.func95 rfl rfl (n := 5) rfl rfl (.inr rfl) ?_
  intro base B w0
  refine T.st (st' := ⟨[(0, .v (.int .i64 a0))], [], 0, []⟩) rfl ?_
  refine T.seq ?_
  refine T.region ?_
  refine RunT.ot0 (x := .v (.bool false)) rfl rfl rfl rfl (.assignX rfl) ?_
  refine RunT.nil ?_
  refine T.seq ?_
  refine T.region ?_
  refine RunT.ot0 (x := .v (.int .i64 a0)) rfl rfl rfl rfl (.moveX rfl) ?_
  obtain ⟨r1, h2, H⟩ := bs H
  refine RunT.ot0 (x := .v (.bool r1)) rfl rfl rfl rfl (.callp (venue_in_pc false k a0 1 1048576 r1 h2) rfl ⟨(.one .v), (.one .v), (.one .v), trivial⟩ rfl rfl rfl) ?_
  refine RunT.ot0 (x := .v (.bool r1)) rfl rfl rfl rfl (.assignX rfl) ?_
  refine RunT.nil ?_
  obtain rfl := si H
  refine T.sub (sub_to (st' := ⟨[(2, .v (.bool r1))], [], 8, []⟩) [] (by decide) rfl rfl (⟨⟨_, rfl, .one .v⟩, trivial⟩) (trivial)) ?_
  refine T.ret ?_
  exact RetOk.same [.v (.bool r1)] ⟨rfl, trivial⟩ rfl rfl rfl
set_option maxHeartbeats 4000000 in
theorem venue_Coord_pc (al : Bool) (k : Nat) (a0 : Int) (o : Bool) (H : venue_Coord k a0 = some o) : PC Try.prog al 88 [.v (.int .i64 a0)] (.v (.bool o)) := by
  unfold venue_Coord at H
  refine PC.of_T Try.func88 rfl rfl (n := 5) rfl rfl (.inr rfl) ?_
  intro base B w0
  refine T.st (st' := ⟨[(0, .v (.int .i64 a0))], [], 0, []⟩) rfl ?_
  refine T.seq ?_
  refine T.region ?_
  refine RunT.ot0 (x := .v (.bool false)) rfl rfl rfl rfl (.assignX rfl) ?_
  refine RunT.nil ?_
  refine T.seq ?_
  refine T.region ?_
  refine RunT.ot0 (x := .v (.int .i64 a0)) rfl rfl rfl rfl (.moveX rfl) ?_
  obtain ⟨r1, h2, H⟩ := bs H
  refine RunT.ot0 (x := .v (.bool r1)) rfl rfl rfl rfl (.callp (venue_in_pc false k a0 (-1048576) 1048576 r1 h2) rfl ⟨(.one .v), (.one .v), (.one .v), trivial⟩ rfl rfl rfl) ?_
  refine RunT.ot0 (x := .v (.bool r1)) rfl rfl rfl rfl (.assignX rfl) ?_
  refine RunT.nil ?_
  obtain rfl := si H
  refine T.sub (sub_to (st' := ⟨[(2, .v (.bool r1))], [], 8, []⟩) [] (by decide) rfl rfl (⟨⟨_, rfl, .one .v⟩, trivial⟩) (trivial)) ?_
  refine T.ret ?_
  exact RetOk.same [.v (.bool r1)] ⟨rfl, trivial⟩ rfl rfl rfl
set_option maxHeartbeats 4000000 in
theorem venue_Row_pc (al : Bool) (k : Nat) (a0 : Int) (o : Bool) (H : venue_Row k a0 = some o) : PC Try.prog al 162 [.v (.int .i64 a0)] (.v (.bool o)) := by
  unfold venue_Row at H
  refine PC.of_T Try.func162 rfl rfl (n := 5) rfl rfl (.inr rfl) ?_
  intro base B w0
  refine T.st (st' := ⟨[(0, .v (.int .i64 a0))], [], 0, []⟩) rfl ?_
  refine T.seq ?_
  refine T.region ?_
  refine RunT.ot0 (x := .v (.bool false)) rfl rfl rfl rfl (.assignX rfl) ?_
  refine RunT.nil ?_
  refine T.seq ?_
  refine T.region ?_
  refine RunT.ot0 (x := .v (.int .i64 a0)) rfl rfl rfl rfl (.moveX rfl) ?_
  obtain ⟨r1, h2, H⟩ := bs H
  refine RunT.ot0 (x := .v (.bool r1)) rfl rfl rfl rfl (.callp (venue_in_pc false k a0 0 999 r1 h2) rfl ⟨(.one .v), (.one .v), (.one .v), trivial⟩ rfl rfl rfl) ?_
  refine RunT.ot0 (x := .v (.bool r1)) rfl rfl rfl rfl (.assignX rfl) ?_
  refine RunT.nil ?_
  obtain rfl := si H
  refine T.sub (sub_to (st' := ⟨[(2, .v (.bool r1))], [], 8, []⟩) [] (by decide) rfl rfl (⟨⟨_, rfl, .one .v⟩, trivial⟩) (trivial)) ?_
  refine T.ret ?_
  exact RetOk.same [.v (.bool r1)] ⟨rfl, trivial⟩ rfl rfl rfl
set_option maxHeartbeats 4000000 in
theorem venue_seat_pc (al : Bool) (k : Nat) (a0 : Seat) (o : Bool) (H : venue_seat k a0 = some o) : PC Try.prog al 160 [.agg [.v (.int .i64 a0.Row), .v (.int .i64 a0.X), .v (.int .i64 a0.Y), .v (.int .i64 a0.Kind)]] (.v (.bool o)) := by
  unfold venue_seat at H
  refine PC.of_T Try.func160 rfl rfl (n := 24) rfl rfl (.inr rfl) ?_
  intro base B w0
  refine T.st (st' := ⟨[(0, .agg [.v (.int .i64 a0.Row), .v (.int .i64 a0.X), .v (.int .i64 a0.Y), .v (.int .i64 a0.Kind)])], [], 0, []⟩) rfl ?_
  refine T.seq ?_
  refine T.region ?_
  refine RunT.ot1 (x := .ptr 0 0) (p0 := (0, some (.box [.v (.int .i64 a0.Row), .v (.int .i64 a0.X), .v (.int .i64 a0.Y), .v (.int .i64 a0.Kind)]))) (n' := 8) rfl rfl rfl rfl (.boxX rfl rfl rfl) rfl ?_
  refine RunT.ot0 (x := .v (.bool false)) rfl rfl rfl rfl (.assignX rfl) ?_
  refine RunT.nil ?_
  refine T.seq ?_
  refine T.seq ?_
  refine T.region ?_
  refine RunT.ot0 (x := .ptr 0 3) rfl rfl rfl rfl (.fieldPX fl28_3 rfl rfl) ?_
  refine RunT.ot0 (x := .v (.int .i64 a0.Kind)) rfl rfl rfl rfl (.loadP ty3 rfl rfl rfl) ?_
  refine RunT.nil ?_
  refine T.block ?_
  refine T.seq ?_
  refine T.block ?_
  refine T.block ?_
  refine T.block ?_
  refine T.seq ?_
  refine T.seq ?_
  refine T.seq ?_
  refine T.region ?_
  refine RunT.ot0 (x := .v (.bool (decide (a0.Kind = 0)))) rfl rfl rfl rfl (.bin rfl rfl (fun w => b_eql w) rfl) ?_
  refine RunT.ot0 (x := .v (.bool (decide (a0.Kind = 0)))) rfl rfl rfl rfl (.assignX rfl) ?_
  refine RunT.nil ?_
  refine T.cond2 (t := decide (a0.Kind = 0)) rfl (fun c1 => ?_) (fun c1 => ?_)
  · replace H := ct H c1
    refine T.exit ?_
    refine T.seq ?_
    refine T.seq ?_
    refine T.region ?_
    refine RunT.ot0 (x := .ptr 0 0) rfl rfl rfl rfl (.fieldPX fl28_0 rfl rfl) ?_
    refine RunT.ot0 (x := .v (.int .i64 a0.Row)) rfl rfl rfl rfl (.loadP ty3 rfl rfl rfl) ?_
    obtain ⟨r2, h3, H⟩ := bs H
    refine RunT.ot0 (x := .v (.bool r2)) rfl rfl rfl rfl (.callp (venue_Row_pc false k a0.Row r2 h3) rfl ⟨(.one .v), trivial⟩ rfl rfl rfl) ?_
    refine RunT.ot0 (x := .v (.bool r2)) rfl rfl rfl rfl (.moveX rfl) ?_
    refine RunT.cases (t := 14) (c := r2) rfl (fun g4 => ?_) (fun g4 => ?_)
    · replace H := ct H g4
      refine RunT.gt0 (x := .ptr 0 1) rfl rfl rfl (bo g4) rfl rfl (.fieldPX fl28_1 rfl rfl) ?_
      refine RunT.gt0 (x := .v (.int .i64 a0.X)) rfl rfl rfl (bo g4) rfl rfl (.loadP ty3 rfl rfl rfl) ?_
      obtain ⟨r5, h6, H⟩ := bs H
      refine RunT.gt0 (x := .v (.bool r5)) rfl rfl rfl (bo g4) rfl rfl (.callp (venue_Coord_pc false k a0.X r5 h6) rfl ⟨(.one .v), trivial⟩ rfl rfl rfl) ?_
      refine RunT.ot0 (x := .v (.bool r5)) rfl rfl rfl rfl (.pickT (bo g4) rfl) ?_
      refine RunT.ot0 (x := .v (.bool r5)) rfl rfl rfl rfl (.moveX rfl) ?_
      refine RunT.cases (t := 19) (c := r5) rfl (fun g7 => ?_) (fun g7 => ?_)
      · replace H := ct H g7
        refine RunT.gt0 (x := .ptr 0 2) rfl rfl rfl (bo g7) rfl rfl (.fieldPX fl28_2 rfl rfl) ?_
        refine RunT.gt0 (x := .v (.int .i64 a0.Y)) rfl rfl rfl (bo g7) rfl rfl (.loadP ty3 rfl rfl rfl) ?_
        obtain ⟨r8, h9, H⟩ := bs H
        refine RunT.gt0 (x := .v (.bool r8)) rfl rfl rfl (bo g7) rfl rfl (.callp (venue_Coord_pc false k a0.Y r8 h9) rfl ⟨(.one .v), trivial⟩ rfl rfl rfl) ?_
        refine RunT.ot0 (x := .v (.bool r8)) rfl rfl rfl rfl (.pickT (bo g7) rfl) ?_
        refine RunT.ot0 (x := .v (.bool r8)) rfl rfl rfl rfl (.assignX rfl) ?_
        refine RunT.nil ?_
        obtain rfl := si H
        refine T.sub (sub_to (st' := ⟨[(2, .v (.bool r8))], [], 8, []⟩) [] (by decide) rfl rfl (⟨⟨_, rfl, .one .v⟩, trivial⟩) (trivial)) ?_
        refine T.ret ?_
        exact RetOk.same [.v (.bool r8)] ⟨rfl, trivial⟩ rfl rfl rfl
      · replace H := cf H g7
        refine RunT.xn rfl rfl rfl (bo g7) rfl rfl ?_
        refine RunT.xn rfl rfl rfl (bo g7) rfl rfl ?_
        refine RunT.xn rfl rfl rfl (bo g7) rfl rfl ?_
        refine RunT.ot0 (x := .v (.bool false)) rfl rfl rfl rfl (.pickF (bo g7) rfl) ?_
        refine RunT.ot0 (x := .v (.bool false)) rfl rfl rfl rfl (.assignX rfl) ?_
        refine RunT.nil ?_
        obtain rfl := si H
        refine T.sub (sub_to (st' := ⟨[(2, .v (.bool false))], [], 8, []⟩) [] (by decide) rfl rfl (⟨⟨_, rfl, .one .v⟩, trivial⟩) (trivial)) ?_
        refine T.ret ?_
        exact RetOk.same [.v (.bool false)] ⟨rfl, trivial⟩ rfl rfl rfl
    · replace H := cf H g4
      refine RunT.xn rfl rfl rfl (bo g4) rfl rfl ?_
      refine RunT.xn rfl rfl rfl (bo g4) rfl rfl ?_
      refine RunT.xn rfl rfl rfl (bo g4) rfl rfl ?_
      refine RunT.ot0 (x := .v (.bool false)) rfl rfl rfl rfl (.pickF (bo g4) rfl) ?_
      refine RunT.ot0 (x := .v (.bool false)) rfl rfl rfl rfl (.moveX rfl) ?_
      refine RunT.xn rfl rfl rfl rfl rfl rfl ?_
      refine RunT.xn rfl rfl rfl rfl rfl rfl ?_
      refine RunT.xn rfl rfl rfl rfl rfl rfl ?_
      refine RunT.ot0 (x := .v (.bool false)) rfl rfl rfl rfl (.pickF rfl rfl) ?_
      refine RunT.ot0 (x := .v (.bool false)) rfl rfl rfl rfl (.assignX rfl) ?_
      refine RunT.nil ?_
      obtain rfl := si H
      refine T.sub (sub_to (st' := ⟨[(2, .v (.bool false))], [], 8, []⟩) [] (by decide) rfl rfl (⟨⟨_, rfl, .one .v⟩, trivial⟩) (trivial)) ?_
      refine T.ret ?_
      exact RetOk.same [.v (.bool false)] ⟨rfl, trivial⟩ rfl rfl rfl
  · replace H := cf H c1
    refine T.skip ?_
    refine T.seq ?_
    refine T.seq ?_
    refine T.sub (sub_pick [1, 4] [0] (st' := ⟨[(1, .ptr 0 0), (4, .v (.int .i64 a0.Kind))], [(0, some (.box [.v (.int .i64 a0.Row), .v (.int .i64 a0.X), .v (.int .i64 a0.Y), .v (.int .i64 a0.Kind)]))], 8, []⟩) rfl rfl rfl rfl rfl) ?_
    refine T.region ?_
    refine RunT.ot0 (x := .v (.bool (decide (a0.Kind = 1)))) rfl rfl rfl rfl (.bin rfl rfl (fun w => b_eql w) rfl) ?_
    refine RunT.ot0 (x := .v (.bool (decide (a0.Kind = 1)))) rfl rfl rfl rfl (.assignX rfl) ?_
    refine RunT.nil ?_
    refine T.cond2 (t := decide (a0.Kind = 1)) rfl (fun c10 => ?_) (fun c10 => ?_)
    · replace H := ct H c10
      refine T.exit ?_
      refine T.seq ?_
      refine T.seq ?_
      refine T.region ?_
      refine RunT.ot0 (x := .ptr 0 0) rfl rfl rfl rfl (.fieldPX fl28_0 rfl rfl) ?_
      refine RunT.ot0 (x := .v (.int .i64 a0.Row)) rfl rfl rfl rfl (.loadP ty3 rfl rfl rfl) ?_
      obtain ⟨r11, h12, H⟩ := bs H
      refine RunT.ot0 (x := .v (.bool r11)) rfl rfl rfl rfl (.callp (venue_Row_pc false k a0.Row r11 h12) rfl ⟨(.one .v), trivial⟩ rfl rfl rfl) ?_
      refine RunT.ot0 (x := .v (.bool r11)) rfl rfl rfl rfl (.moveX rfl) ?_
      refine RunT.cases (t := 14) (c := r11) rfl (fun g13 => ?_) (fun g13 => ?_)
      · replace H := ct H g13
        refine RunT.gt0 (x := .ptr 0 1) rfl rfl rfl (bo g13) rfl rfl (.fieldPX fl28_1 rfl rfl) ?_
        refine RunT.gt0 (x := .v (.int .i64 a0.X)) rfl rfl rfl (bo g13) rfl rfl (.loadP ty3 rfl rfl rfl) ?_
        obtain ⟨r14, h15, H⟩ := bs H
        refine RunT.gt0 (x := .v (.bool r14)) rfl rfl rfl (bo g13) rfl rfl (.callp (venue_Coord_pc false k a0.X r14 h15) rfl ⟨(.one .v), trivial⟩ rfl rfl rfl) ?_
        refine RunT.ot0 (x := .v (.bool r14)) rfl rfl rfl rfl (.pickT (bo g13) rfl) ?_
        refine RunT.ot0 (x := .v (.bool r14)) rfl rfl rfl rfl (.moveX rfl) ?_
        refine RunT.cases (t := 19) (c := r14) rfl (fun g16 => ?_) (fun g16 => ?_)
        · replace H := ct H g16
          refine RunT.gt0 (x := .ptr 0 2) rfl rfl rfl (bo g16) rfl rfl (.fieldPX fl28_2 rfl rfl) ?_
          refine RunT.gt0 (x := .v (.int .i64 a0.Y)) rfl rfl rfl (bo g16) rfl rfl (.loadP ty3 rfl rfl rfl) ?_
          obtain ⟨r17, h18, H⟩ := bs H
          refine RunT.gt0 (x := .v (.bool r17)) rfl rfl rfl (bo g16) rfl rfl (.callp (venue_Coord_pc false k a0.Y r17 h18) rfl ⟨(.one .v), trivial⟩ rfl rfl rfl) ?_
          refine RunT.ot0 (x := .v (.bool r17)) rfl rfl rfl rfl (.pickT (bo g16) rfl) ?_
          refine RunT.ot0 (x := .v (.bool r17)) rfl rfl rfl rfl (.assignX rfl) ?_
          refine RunT.nil ?_
          obtain rfl := si H
          refine T.sub (sub_to (st' := ⟨[(2, .v (.bool r17))], [], 8, []⟩) [] (by decide) rfl rfl (⟨⟨_, rfl, .one .v⟩, trivial⟩) (trivial)) ?_
          refine T.ret ?_
          exact RetOk.same [.v (.bool r17)] ⟨rfl, trivial⟩ rfl rfl rfl
        · replace H := cf H g16
          refine RunT.xn rfl rfl rfl (bo g16) rfl rfl ?_
          refine RunT.xn rfl rfl rfl (bo g16) rfl rfl ?_
          refine RunT.xn rfl rfl rfl (bo g16) rfl rfl ?_
          refine RunT.ot0 (x := .v (.bool false)) rfl rfl rfl rfl (.pickF (bo g16) rfl) ?_
          refine RunT.ot0 (x := .v (.bool false)) rfl rfl rfl rfl (.assignX rfl) ?_
          refine RunT.nil ?_
          obtain rfl := si H
          refine T.sub (sub_to (st' := ⟨[(2, .v (.bool false))], [], 8, []⟩) [] (by decide) rfl rfl (⟨⟨_, rfl, .one .v⟩, trivial⟩) (trivial)) ?_
          refine T.ret ?_
          exact RetOk.same [.v (.bool false)] ⟨rfl, trivial⟩ rfl rfl rfl
      · replace H := cf H g13
        refine RunT.xn rfl rfl rfl (bo g13) rfl rfl ?_
        refine RunT.xn rfl rfl rfl (bo g13) rfl rfl ?_
        refine RunT.xn rfl rfl rfl (bo g13) rfl rfl ?_
        refine RunT.ot0 (x := .v (.bool false)) rfl rfl rfl rfl (.pickF (bo g13) rfl) ?_
        refine RunT.ot0 (x := .v (.bool false)) rfl rfl rfl rfl (.moveX rfl) ?_
        refine RunT.xn rfl rfl rfl rfl rfl rfl ?_
        refine RunT.xn rfl rfl rfl rfl rfl rfl ?_
        refine RunT.xn rfl rfl rfl rfl rfl rfl ?_
        refine RunT.ot0 (x := .v (.bool false)) rfl rfl rfl rfl (.pickF rfl rfl) ?_
        refine RunT.ot0 (x := .v (.bool false)) rfl rfl rfl rfl (.assignX rfl) ?_
        refine RunT.nil ?_
        obtain rfl := si H
        refine T.sub (sub_to (st' := ⟨[(2, .v (.bool false))], [], 8, []⟩) [] (by decide) rfl rfl (⟨⟨_, rfl, .one .v⟩, trivial⟩) (trivial)) ?_
        refine T.ret ?_
        exact RetOk.same [.v (.bool false)] ⟨rfl, trivial⟩ rfl rfl rfl
    · replace H := cf H c10
      refine T.skip ?_
      refine T.seq ?_
      refine T.sub (sub_pick [1, 4] [0] (st' := ⟨[(1, .ptr 0 0), (4, .v (.int .i64 a0.Kind))], [(0, some (.box [.v (.int .i64 a0.Row), .v (.int .i64 a0.X), .v (.int .i64 a0.Y), .v (.int .i64 a0.Kind)]))], 8, []⟩) rfl rfl rfl rfl rfl) ?_
      refine T.region ?_
      refine RunT.ot0 (x := .v (.bool (decide (a0.Kind = 2)))) rfl rfl rfl rfl (.bin rfl rfl (fun w => b_eql w) rfl) ?_
      refine RunT.ot0 (x := .v (.bool (decide (a0.Kind = 2)))) rfl rfl rfl rfl (.assignX rfl) ?_
      refine RunT.nil ?_
      refine T.cond2 (t := decide (a0.Kind = 2)) rfl (fun c19 => ?_) (fun c19 => ?_)
      · replace H := ct H c19
        refine T.exit ?_
        refine T.seq ?_
        refine T.seq ?_
        refine T.region ?_
        refine RunT.ot0 (x := .ptr 0 0) rfl rfl rfl rfl (.fieldPX fl28_0 rfl rfl) ?_
        refine RunT.ot0 (x := .v (.int .i64 a0.Row)) rfl rfl rfl rfl (.loadP ty3 rfl rfl rfl) ?_
        obtain ⟨r20, h21, H⟩ := bs H
        refine RunT.ot0 (x := .v (.bool r20)) rfl rfl rfl rfl (.callp (venue_Row_pc false k a0.Row r20 h21) rfl ⟨(.one .v), trivial⟩ rfl rfl rfl) ?_
        refine RunT.ot0 (x := .v (.bool r20)) rfl rfl rfl rfl (.moveX rfl) ?_
        refine RunT.cases (t := 14) (c := r20) rfl (fun g22 => ?_) (fun g22 => ?_)
        · replace H := ct H g22
          refine RunT.gt0 (x := .ptr 0 1) rfl rfl rfl (bo g22) rfl rfl (.fieldPX fl28_1 rfl rfl) ?_
          refine RunT.gt0 (x := .v (.int .i64 a0.X)) rfl rfl rfl (bo g22) rfl rfl (.loadP ty3 rfl rfl rfl) ?_
          obtain ⟨r23, h24, H⟩ := bs H
          refine RunT.gt0 (x := .v (.bool r23)) rfl rfl rfl (bo g22) rfl rfl (.callp (venue_Coord_pc false k a0.X r23 h24) rfl ⟨(.one .v), trivial⟩ rfl rfl rfl) ?_
          refine RunT.ot0 (x := .v (.bool r23)) rfl rfl rfl rfl (.pickT (bo g22) rfl) ?_
          refine RunT.ot0 (x := .v (.bool r23)) rfl rfl rfl rfl (.moveX rfl) ?_
          refine RunT.cases (t := 19) (c := r23) rfl (fun g25 => ?_) (fun g25 => ?_)
          · replace H := ct H g25
            refine RunT.gt0 (x := .ptr 0 2) rfl rfl rfl (bo g25) rfl rfl (.fieldPX fl28_2 rfl rfl) ?_
            refine RunT.gt0 (x := .v (.int .i64 a0.Y)) rfl rfl rfl (bo g25) rfl rfl (.loadP ty3 rfl rfl rfl) ?_
            obtain ⟨r26, h27, H⟩ := bs H
            refine RunT.gt0 (x := .v (.bool r26)) rfl rfl rfl (bo g25) rfl rfl (.callp (venue_Coord_pc false k a0.Y r26 h27) rfl ⟨(.one .v), trivial⟩ rfl rfl rfl) ?_
            refine RunT.ot0 (x := .v (.bool r26)) rfl rfl rfl rfl (.pickT (bo g25) rfl) ?_
            refine RunT.ot0 (x := .v (.bool r26)) rfl rfl rfl rfl (.assignX rfl) ?_
            refine RunT.nil ?_
            obtain rfl := si H
            refine T.sub (sub_to (st' := ⟨[(2, .v (.bool r26))], [], 8, []⟩) [] (by decide) rfl rfl (⟨⟨_, rfl, .one .v⟩, trivial⟩) (trivial)) ?_
            refine T.ret ?_
            exact RetOk.same [.v (.bool r26)] ⟨rfl, trivial⟩ rfl rfl rfl
          · replace H := cf H g25
            refine RunT.xn rfl rfl rfl (bo g25) rfl rfl ?_
            refine RunT.xn rfl rfl rfl (bo g25) rfl rfl ?_
            refine RunT.xn rfl rfl rfl (bo g25) rfl rfl ?_
            refine RunT.ot0 (x := .v (.bool false)) rfl rfl rfl rfl (.pickF (bo g25) rfl) ?_
            refine RunT.ot0 (x := .v (.bool false)) rfl rfl rfl rfl (.assignX rfl) ?_
            refine RunT.nil ?_
            obtain rfl := si H
            refine T.sub (sub_to (st' := ⟨[(2, .v (.bool false))], [], 8, []⟩) [] (by decide) rfl rfl (⟨⟨_, rfl, .one .v⟩, trivial⟩) (trivial)) ?_
            refine T.ret ?_
            exact RetOk.same [.v (.bool false)] ⟨rfl, trivial⟩ rfl rfl rfl
        · replace H := cf H g22
          refine RunT.xn rfl rfl rfl (bo g22) rfl rfl ?_
          refine RunT.xn rfl rfl rfl (bo g22) rfl rfl ?_
          refine RunT.xn rfl rfl rfl (bo g22) rfl rfl ?_
          refine RunT.ot0 (x := .v (.bool false)) rfl rfl rfl rfl (.pickF (bo g22) rfl) ?_
          refine RunT.ot0 (x := .v (.bool false)) rfl rfl rfl rfl (.moveX rfl) ?_
          refine RunT.xn rfl rfl rfl rfl rfl rfl ?_
          refine RunT.xn rfl rfl rfl rfl rfl rfl ?_
          refine RunT.xn rfl rfl rfl rfl rfl rfl ?_
          refine RunT.ot0 (x := .v (.bool false)) rfl rfl rfl rfl (.pickF rfl rfl) ?_
          refine RunT.ot0 (x := .v (.bool false)) rfl rfl rfl rfl (.assignX rfl) ?_
          refine RunT.nil ?_
          obtain rfl := si H
          refine T.sub (sub_to (st' := ⟨[(2, .v (.bool false))], [], 8, []⟩) [] (by decide) rfl rfl (⟨⟨_, rfl, .one .v⟩, trivial⟩) (trivial)) ?_
          refine T.ret ?_
          exact RetOk.same [.v (.bool false)] ⟨rfl, trivial⟩ rfl rfl rfl
      · replace H := cf H c19
        refine T.skip ?_
        refine T.exit ?_
        refine T.seq ?_
        refine T.sub (sub_pick [] [] (st' := ⟨[], [], 8, []⟩) rfl rfl rfl rfl rfl) ?_
        refine T.region ?_
        refine RunT.ot0 (x := .v (.bool false)) rfl rfl rfl rfl (.assignX rfl) ?_
        refine RunT.nil ?_
        obtain rfl := si H
        refine T.sub (sub_to (st' := ⟨[(2, .v (.bool false))], [], 8, []⟩) [] (by decide) rfl rfl (⟨⟨_, rfl, .one .v⟩, trivial⟩) (trivial)) ?_
        refine T.ret ?_
        exact RetOk.same [.v (.bool false)] ⟨rfl, trivial⟩ rfl rfl rfl
end Go.Proofs.Ytlfpkjlaajfjnaa
