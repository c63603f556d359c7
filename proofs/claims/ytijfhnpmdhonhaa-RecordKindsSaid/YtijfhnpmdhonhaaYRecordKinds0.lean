/- The Go functions come to just what their plain forms come to: one contract each. -/
import Derived.Test.YtijfhnpmdhonhaaE
set_option linter.unusedVariables false
set_option linter.unusedSimpArgs false
set_option maxRecDepth 100000
namespace Go.Proofs.Ytijfhnpmdhonhaa
open Go Go.Sh Go.Px
attribute [local irreducible] Go.Sh.T Go.Sh.RunT Go.Sh.RunD
set_option maxHeartbeats 4000000 in
theorem party_May_pc (al : Bool) (k : Nat) (a0 : Party) (o : Bool) (H : party_May k a0 = some o) : PC Try.prog al 15 [.agg [.v (.int .i64 a0.Size), .v (.int .i64 a0.Wheels)]] (.v (.bool o)) := by
  unfold party_May at H
  refine PC.of_T Try.func15 rfl rfl (n := 26) rfl rfl (.inr rfl) ?_
  intro base B w0
  refine T.st (st' := ⟨[(0, .agg [.v (.int .i64 a0.Size), .v (.int .i64 a0.Wheels)])], [], 0, []⟩) rfl ?_
  refine T.seq ?_
  refine T.region ?_
  refine RunT.ot1 (x := .ptr 0 0) (p0 := (0, some (.box [.v (.int .i64 a0.Size), .v (.int .i64 a0.Wheels)]))) (n' := 8) rfl rfl rfl rfl (.boxX rfl rfl rfl) rfl ?_
  refine RunT.ot0 (x := .v (.bool false)) rfl rfl rfl rfl (.assignX rfl) ?_
  refine RunT.nil ?_
  refine T.seq ?_
  refine T.block ?_
  refine T.seq ?_
  refine T.block ?_
  refine T.block ?_
  refine T.block ?_
  refine T.seq ?_
  refine T.seq ?_
  refine T.seq ?_
  refine T.region ?_
  refine RunT.ot0 (x := .ptr 0 0) rfl rfl rfl rfl (.fieldPX fl23_0 rfl rfl) ?_
  refine RunT.ot0 (x := .v (.int .i64 a0.Size)) rfl rfl rfl rfl (.loadP ty3 rfl rfl rfl) ?_
  refine RunT.ot0 (x := .v (.bool (decide (a0.Size < 1)))) rfl rfl rfl rfl (.bin rfl rfl (fun w => b_lss w) rfl) ?_
  refine RunT.ot0 (x := .v (.bool (decide (a0.Size < 1)))) rfl rfl rfl rfl (.assignX rfl) ?_
  refine RunT.nil ?_
  refine T.cond2 (t := decide (a0.Size < 1)) rfl (fun c1 => ?_) (fun c1 => ?_)
  · replace H := ct H c1
    refine T.exit ?_
    refine T.seq ?_
    refine T.seq ?_
    refine T.region ?_
    refine RunT.ot0 (x := .v (.bool false)) rfl rfl rfl rfl (.assignX rfl) ?_
    refine RunT.nil ?_
    obtain rfl := si H
    refine T.sub (sub_to (st' := ⟨[(2, .v (.bool false))], [], 8, []⟩) [] (by decide) rfl rfl (⟨⟨_, rfl, .one .v⟩, trivial⟩) (trivial)) ?_
    refine T.ret ?_
    exact RetOk.same [.v (.bool false)] ⟨rfl, trivial⟩ rfl rfl rfl
  · replace H := cf H c1
    refine T.skip ?_
    refine T.seq ?_
    refine T.seq ?_
    refine T.region ?_
    refine RunT.ot0 (x := .ptr 0 0) rfl rfl rfl rfl (.fieldPX fl23_0 rfl rfl) ?_
    refine RunT.ot0 (x := .v (.int .i64 a0.Size)) rfl rfl rfl rfl (.loadP ty3 rfl rfl rfl) ?_
    refine RunT.ot0 (x := .v (.bool (decide (8 < a0.Size)))) rfl rfl rfl rfl (.bin rfl rfl (fun w => b_gtr w) rfl) ?_
    refine RunT.ot0 (x := .v (.bool (decide (8 < a0.Size)))) rfl rfl rfl rfl (.assignX rfl) ?_
    refine RunT.nil ?_
    refine T.cond2 (t := decide (8 < a0.Size)) rfl (fun c2 => ?_) (fun c2 => ?_)
    · replace H := ct H c2
      refine T.exit ?_
      refine T.seq ?_
      refine T.seq ?_
      refine T.region ?_
      refine RunT.ot0 (x := .v (.bool false)) rfl rfl rfl rfl (.assignX rfl) ?_
      refine RunT.nil ?_
      obtain rfl := si H
      refine T.sub (sub_to (st' := ⟨[(2, .v (.bool false))], [], 8, []⟩) [] (by decide) rfl rfl (⟨⟨_, rfl, .one .v⟩, trivial⟩) (trivial)) ?_
      refine T.ret ?_
      exact RetOk.same [.v (.bool false)] ⟨rfl, trivial⟩ rfl rfl rfl
    · replace H := cf H c2
      refine T.skip ?_
      refine T.seq ?_
      refine T.region ?_
      refine RunT.ot0 (x := .ptr 0 1) rfl rfl rfl rfl (.fieldPX fl23_1 rfl rfl) ?_
      refine RunT.ot0 (x := .v (.int .i64 a0.Wheels)) rfl rfl rfl rfl (.loadP ty3 rfl rfl rfl) ?_
      refine RunT.ot0 (x := .v (.bool (decide (a0.Wheels < 0)))) rfl rfl rfl rfl (.bin rfl rfl (fun w => b_lss w) rfl) ?_
      refine RunT.ot0 (x := .v (.bool (decide (a0.Wheels < 0)))) rfl rfl rfl rfl (.assignX rfl) ?_
      refine RunT.nil ?_
      refine T.cond2 (t := decide (a0.Wheels < 0)) rfl (fun c3 => ?_) (fun c3 => ?_)
      · replace H := ct H c3
        refine T.exit ?_
        refine T.seq ?_
        refine T.seq ?_
        refine T.sub (sub_pick [] [] (st' := ⟨[], [], 8, []⟩) rfl rfl rfl rfl rfl) ?_
        refine T.region ?_
        refine RunT.ot0 (x := .v (.bool false)) rfl rfl rfl rfl (.assignX rfl) ?_
        refine RunT.nil ?_
        obtain rfl := si H
        refine T.sub (sub_to (st' := ⟨[(2, .v (.bool false))], [], 8, []⟩) [] (by decide) rfl rfl (⟨⟨_, rfl, .one .v⟩, trivial⟩) (trivial)) ?_
        refine T.ret ?_
        exact RetOk.same [.v (.bool false)] ⟨rfl, trivial⟩ rfl rfl rfl
      · replace H := cf H c3
        refine T.skip ?_
        refine T.exit ?_
        refine T.seq ?_
        refine T.region ?_
        refine RunT.ot0 (x := .ptr 0 1) rfl rfl rfl rfl (.fieldPX fl23_1 rfl rfl) ?_
        refine RunT.ot0 (x := .v (.int .i64 a0.Wheels)) rfl rfl rfl rfl (.loadP ty3 rfl rfl rfl) ?_
        refine RunT.ot0 (x := .v (.bool (decide (a0.Wheels ≤ 2)))) rfl rfl rfl rfl (.bin rfl rfl (fun w => b_leq w) rfl) ?_
        refine RunT.ot0 (x := .v (.bool (decide (a0.Wheels ≤ 2)))) rfl rfl rfl rfl (.moveX rfl) ?_
        refine RunT.cases (t := 18) (c := decide (a0.Wheels ≤ 2)) rfl (fun g4 => ?_) (fun g4 => ?_)
        · replace H := ct H g4
          refine RunT.gt0 (x := .ptr 0 1) rfl rfl rfl (bo g4) rfl rfl (.fieldPX fl23_1 rfl rfl) ?_
          refine RunT.gt0 (x := .v (.int .i64 a0.Wheels)) rfl rfl rfl (bo g4) rfl rfl (.loadP ty3 rfl rfl rfl) ?_
          refine RunT.gt0 (x := .v (.int .i64 (wr (2 * a0.Wheels)))) rfl rfl rfl (bo g4) rfl rfl (.bin rfl rfl (fun w => b_mulw w) rfl) ?_
          refine RunT.gt0 (x := .ptr 0 0) rfl rfl rfl (bo g4) rfl rfl (.fieldPX fl23_0 rfl rfl) ?_
          refine RunT.gt0 (x := .v (.int .i64 a0.Size)) rfl rfl rfl (bo g4) rfl rfl (.loadP ty3 rfl rfl rfl) ?_
          refine RunT.gt0 (x := .v (.bool (decide ((wr (2 * a0.Wheels)) ≤ a0.Size)))) rfl rfl rfl (bo g4) rfl rfl (.bin rfl rfl (fun w => b_leq w) rfl) ?_
          refine RunT.ot0 (x := .v (.bool (decide ((wr (2 * a0.Wheels)) ≤ a0.Size)))) rfl rfl rfl rfl (.pickT (bo g4) rfl) ?_
          refine RunT.ot0 (x := .v (.bool (decide ((wr (2 * a0.Wheels)) ≤ a0.Size)))) rfl rfl rfl rfl (.assignX rfl) ?_
          refine RunT.nil ?_
          obtain rfl := si H
          refine T.sub (sub_to (st' := ⟨[(2, .v (.bool (decide ((wr (2 * a0.Wheels)) ≤ a0.Size))))], [], 8, []⟩) [] (by decide) rfl rfl (⟨⟨_, rfl, .one .v⟩, trivial⟩) (trivial)) ?_
          refine T.ret ?_
          exact RetOk.same [.v (.bool (decide ((wr (2 * a0.Wheels)) ≤ a0.Size)))] ⟨rfl, trivial⟩ rfl rfl rfl
        · replace H := cf H g4
          refine RunT.xn rfl rfl rfl (bo g4) rfl rfl ?_
          refine RunT.xn rfl rfl rfl (bo g4) rfl rfl ?_
          refine RunT.xn rfl rfl rfl (bo g4) rfl rfl ?_
          refine RunT.xn rfl rfl rfl (bo g4) rfl rfl ?_
          refine RunT.xn rfl rfl rfl (bo g4) rfl rfl ?_
          refine RunT.xn rfl rfl rfl (bo g4) rfl rfl ?_
          refine RunT.ot0 (x := .v (.bool false)) rfl rfl rfl rfl (.pickF (bo g4) rfl) ?_
          refine RunT.ot0 (x := .v (.bool false)) rfl rfl rfl rfl (.assignX rfl) ?_
          refine RunT.nil ?_
          obtain rfl := si H
          refine T.sub (sub_to (st' := ⟨[(2, .v (.bool false))], [], 8, []⟩) [] (by decide) rfl rfl (⟨⟨_, rfl, .one .v⟩, trivial⟩) (trivial)) ?_
          refine T.ret ?_
          exact RetOk.same [.v (.bool false)] ⟨rfl, trivial⟩ rfl rfl rfl
set_option maxHeartbeats 4000000 in
theorem record_in_pc (al : Bool) (k : Nat) (a0 : Int) (a1 : Int) (a2 : Int) (o : Bool) (H : record_in k a0 a1 a2 = some o) : PC Try.prog al 53 [.v (.int .i64 a0), .v (.int .i64 a1), .v (.int .i64 a2)] (.v (.bool o)) := by
  unfold record_in at H
  refine PC.of_T Try.func53 rfl rfl (n := 15) rfl rfl (.inr rfl) ?_
  intro base B w0
  refine T.st (st' := ⟨[(0, .v (.int .i64 a0)), (1, .v (.int .i64 a1)), (2, .v (.int .i64 a2))], [], 0, []⟩) rfl ?_
  refine T.seq ?_
  refine T.region ?_
  refine RunT.ot0 (x := .v (.bool false)) rfl rfl rfl rfl (.assignX rfl) ?_
  refine RunT.nil ?_
  refine T.seq ?_
  refine T.region ?_
  refine RunT.ot0 (x := .v (.int .i64 a0)) rfl rfl rfl rfl (.moveX rfl) ?_
  refine RunT.ot0 (x := .v (.int .i64 a1)) rfl rfl rfl rfl (.moveX rfl) ?_
  refine RunT.ot0 (x := .v (.bool (decide (a1 ≤ a0)))) rfl rfl rfl rfl (.bin rfl rfl (fun w => b_geq w) rfl) ?_
  refine RunT.ot0 (x := .v (.bool (decide (a1 ≤ a0)))) rfl rfl rfl rfl (.moveX rfl) ?_
  refine RunT.cases (t := 10) (c := decide (a1 ≤ a0)) rfl (fun g1 => ?_) (fun g1 => ?_)
  · replace H := ct H g1
    refine RunT.gt0 (x := .v (.int .i64 a0)) rfl rfl rfl (bo g1) rfl rfl (.moveX rfl) ?_
    refine RunT.gt0 (x := .v (.int .i64 a2)) rfl rfl rfl (bo g1) rfl rfl (.moveX rfl) ?_
    refine RunT.gt0 (x := .v (.bool (decide (a0 ≤ a2)))) rfl rfl rfl (bo g1) rfl rfl (.bin rfl rfl (fun w => b_leq w) rfl) ?_
    refine RunT.ot0 (x := .v (.bool (decide (a0 ≤ a2)))) rfl rfl rfl rfl (.pickT (bo g1) rfl) ?_
    refine RunT.ot0 (x := .v (.bool (decide (a0 ≤ a2)))) rfl rfl rfl rfl (.assignX rfl) ?_
    refine RunT.nil ?_
    obtain rfl := si H
    refine T.sub (sub_to (st' := ⟨[(6, .v (.bool (decide (a0 ≤ a2))))], [], 8, []⟩) [] (by decide) rfl rfl (⟨⟨_, rfl, .one .v⟩, trivial⟩) (trivial)) ?_
    refine T.ret ?_
    exact RetOk.same [.v (.bool (decide (a0 ≤ a2)))] ⟨rfl, trivial⟩ rfl rfl rfl
  · replace H := cf H g1
    refine RunT.xn rfl rfl rfl (bo g1) rfl rfl ?_
    refine RunT.xn rfl rfl rfl (bo g1) rfl rfl ?_
    refine RunT.xn rfl rfl rfl (bo g1) rfl rfl ?_
    refine RunT.ot0 (x := .v (.bool false)) rfl rfl rfl rfl (.pickF (bo g1) rfl) ?_
    refine RunT.ot0 (x := .v (.bool false)) rfl rfl rfl rfl (.assignX rfl) ?_
    refine RunT.nil ?_
    obtain rfl := si H
    refine T.sub (sub_to (st' := ⟨[(6, .v (.bool false))], [], 8, []⟩) [] (by decide) rfl rfl (⟨⟨_, rfl, .one .v⟩, trivial⟩) (trivial)) ?_
    refine T.ret ?_
    exact RetOk.same [.v (.bool false)] ⟨rfl, trivial⟩ rfl rfl rfl
set_option maxHeartbeats 4000000 in
theorem record_order_pc (al : Bool) (k : Nat) (a0 : Order) (o : Bool) (H : record_order k a0 = some o) : PC Try.prog al 52 [.agg [.v (.int .i64 a0.Id), .v (.int .i64 a0.State), .v (.int .i64 a0.Party.Size), .v (.int .i64 a0.Party.Wheels), .v (.int .i64 a0.Until), .v (.int .i64 a0.First)]] (.v (.bool o)) := by
  unfold record_order at H
  refine PC.of_T Try.func52 rfl rfl (n := 26) rfl rfl (.inr rfl) ?_
  intro base B w0
  refine T.st (st' := ⟨[(0, .agg [.v (.int .i64 a0.Id), .v (.int .i64 a0.State), .v (.int .i64 a0.Party.Size), .v (.int .i64 a0.Party.Wheels), .v (.int .i64 a0.Until), .v (.int .i64 a0.First)])], [], 0, []⟩) rfl ?_
  refine T.seq ?_
  refine T.region ?_
  refine RunT.ot1 (x := .ptr 0 0) (p0 := (0, some (.box [.v (.int .i64 a0.Id), .v (.int .i64 a0.State), .v (.int .i64 a0.Party.Size), .v (.int .i64 a0.Party.Wheels), .v (.int .i64 a0.Until), .v (.int .i64 a0.First)]))) (n' := 8) rfl rfl rfl rfl (.boxX rfl rfl rfl) rfl ?_
  refine RunT.ot0 (x := .v (.bool false)) rfl rfl rfl rfl (.assignX rfl) ?_
  refine RunT.nil ?_
  refine T.seq ?_
  refine T.region ?_
  refine RunT.ot0 (x := .ptr 0 0) rfl rfl rfl rfl (.fieldPX fl49_0 rfl rfl) ?_
  refine RunT.ot0 (x := .v (.int .i64 a0.Id)) rfl rfl rfl rfl (.loadP ty3 rfl rfl rfl) ?_
  obtain ⟨r1, h2, H⟩ := bs H
  refine RunT.ot0 (x := .v (.bool r1)) rfl rfl rfl rfl (.callp (record_in_pc false k a0.Id 1 2147483647 r1 h2) rfl ⟨(.one .v), (.one .v), (.one .v), trivial⟩ rfl rfl rfl) ?_
  refine RunT.ot0 (x := .v (.bool r1)) rfl rfl rfl rfl (.moveX rfl) ?_
  refine RunT.cases (t := 6) (c := r1) rfl (fun g3 => ?_) (fun g3 => ?_)
  · replace H := ct H g3
    refine RunT.gt0 (x := .ptr 0 1) rfl rfl rfl (bo g3) rfl rfl (.fieldPX fl49_1 rfl rfl) ?_
    refine RunT.gt0 (x := .v (.int .i64 a0.State)) rfl rfl rfl (bo g3) rfl rfl (.loadP ty3 rfl rfl rfl) ?_
    obtain ⟨r4, h5, H⟩ := bs H
    refine RunT.gt0 (x := .v (.bool r4)) rfl rfl rfl (bo g3) rfl rfl (.callp (record_in_pc false k a0.State 1 3 r4 h5) rfl ⟨(.one .v), (.one .v), (.one .v), trivial⟩ rfl rfl rfl) ?_
    refine RunT.ot0 (x := .v (.bool r4)) rfl rfl rfl rfl (.pickT (bo g3) rfl) ?_
    refine RunT.ot0 (x := .v (.bool r4)) rfl rfl rfl rfl (.moveX rfl) ?_
    refine RunT.cases (t := 11) (c := r4) rfl (fun g6 => ?_) (fun g6 => ?_)
    · replace H := ct H g6
      refine RunT.gt0 (x := .ptr 0 2) rfl rfl rfl (bo g6) rfl rfl (.fieldPX fl49_2 rfl rfl) ?_
      refine RunT.gt0 (x := .agg [.v (.int .i64 a0.Party.Size), .v (.int .i64 a0.Party.Wheels)]) rfl rfl rfl (bo g6) rfl rfl (.loadP ty23 rfl rfl rfl) ?_
      obtain ⟨r7, h8, H⟩ := bs H
      refine RunT.gt0 (x := .v (.bool r7)) rfl rfl rfl (bo g6) rfl rfl (.callp (party_May_pc false k a0.Party r7 h8) rfl ⟨(.agg' ⟨.v, .v, trivial⟩), trivial⟩ rfl rfl rfl) ?_
      refine RunT.ot0 (x := .v (.bool r7)) rfl rfl rfl rfl (.pickT (bo g6) rfl) ?_
      refine RunT.ot0 (x := .v (.bool r7)) rfl rfl rfl rfl (.moveX rfl) ?_
      refine RunT.cases (t := 16) (c := r7) rfl (fun g9 => ?_) (fun g9 => ?_)
      · replace H := ct H g9
        refine RunT.gt0 (x := .ptr 0 4) rfl rfl rfl (bo g9) rfl rfl (.fieldPX fl49_3 rfl rfl) ?_
        refine RunT.gt0 (x := .v (.int .i64 a0.Until)) rfl rfl rfl (bo g9) rfl rfl (.loadP ty2 rfl rfl rfl) ?_
        obtain ⟨r10, h11, H⟩ := bs H
        refine RunT.gt0 (x := .v (.bool r10)) rfl rfl rfl (bo g9) rfl rfl (.callp (record_in_pc false k a0.Until 0 1099511627776 r10 h11) rfl ⟨(.one .v), (.one .v), (.one .v), trivial⟩ rfl rfl rfl) ?_
        refine RunT.ot0 (x := .v (.bool r10)) rfl rfl rfl rfl (.pickT (bo g9) rfl) ?_
        refine RunT.ot0 (x := .v (.bool r10)) rfl rfl rfl rfl (.moveX rfl) ?_
        refine RunT.cases (t := 21) (c := r10) rfl (fun g12 => ?_) (fun g12 => ?_)
        · replace H := ct H g12
          refine RunT.gt0 (x := .ptr 0 5) rfl rfl rfl (bo g12) rfl rfl (.fieldPX fl49_4 rfl rfl) ?_
          refine RunT.gt0 (x := .v (.int .i64 a0.First)) rfl rfl rfl (bo g12) rfl rfl (.loadP ty3 rfl rfl rfl) ?_
          obtain ⟨r13, h14, H⟩ := bs H
          refine RunT.gt0 (x := .v (.bool r13)) rfl rfl rfl (bo g12) rfl rfl (.callp (record_in_pc false k a0.First (-1) 4095 r13 h14) rfl ⟨(.one .v), (.one .v), (.one .v), trivial⟩ rfl rfl rfl) ?_
          refine RunT.ot0 (x := .v (.bool r13)) rfl rfl rfl rfl (.pickT (bo g12) rfl) ?_
          refine RunT.ot0 (x := .v (.bool r13)) rfl rfl rfl rfl (.assignX rfl) ?_
          refine RunT.nil ?_
          obtain rfl := si H
          refine T.sub (sub_to (st' := ⟨[(2, .v (.bool r13))], [], 8, []⟩) [] (by decide) rfl rfl (⟨⟨_, rfl, .one .v⟩, trivial⟩) (trivial)) ?_
          refine T.ret ?_
          exact RetOk.same [.v (.bool r13)] ⟨rfl, trivial⟩ rfl rfl rfl
        · replace H := cf H g12
          refine RunT.xn rfl rfl rfl (bo g12) rfl rfl ?_
          refine RunT.xn rfl rfl rfl (bo g12) rfl rfl ?_
          refine RunT.xn rfl rfl rfl (bo g12) rfl rfl ?_
          refine RunT.ot0 (x := .v (.bool false)) rfl rfl rfl rfl (.pickF (bo g12) rfl) ?_
          refine RunT.ot0 (x := .v (.bool false)) rfl rfl rfl rfl (.assignX rfl) ?_
          refine RunT.nil ?_
          obtain rfl := si H
          refine T.sub (sub_to (st' := ⟨[(2, .v (.bool false))], [], 8, []⟩) [] (by decide) rfl rfl (⟨⟨_, rfl, .one .v⟩, trivial⟩) (trivial)) ?_
          refine T.ret ?_
          exact RetOk.same [.v (.bool false)] ⟨rfl, trivial⟩ rfl rfl rfl
      · replace H := cf H g9
        refine RunT.xn rfl rfl rfl (bo g9) rfl rfl ?_
        refine RunT.xn rfl rfl rfl (bo g9) rfl rfl ?_
        refine RunT.xn rfl rfl rfl (bo g9) rfl rfl ?_
        refine RunT.ot0 (x := .v (.bool false)) rfl rfl rfl rfl (.pickF (bo g9) rfl) ?_
        refine RunT.ot0 (x := .v (.bool false)) rfl rfl rfl rfl (.moveX rfl) ?_
        refine RunT.xn rfl rfl rfl rfl rfl rfl ?_
        refine RunT.xn rfl rfl rfl rfl rfl rfl ?_
        refine RunT.xn rfl rfl rfl rfl rfl rfl ?_
        refine RunT.ot0 (x := .v (.bool false)) rfl rfl rfl rfl (.pickF rfl rfl) ?_
        refine RunT.ot0 (x := .v (.bool false)) rfl rfl rfl rfl (.assignX rfl) ?_
        refine RunT.nil ?_
        obtain rfl := si H
        refine T.sub (sub_to (st' := ⟨[(2, .v (.bool false))], [], 8, []⟩) [] (by decide) rfl rfl (⟨⟨_, rfl, .one .v⟩, trivial⟩) (trivial)) ?_
        refine T.ret ?_
        exact RetOk.same [.v (.bool false)] ⟨rfl, trivial⟩ rfl rfl rfl
    · replace H := cf H g6
      refine RunT.xn rfl rfl rfl (bo g6) rfl rfl ?_
      refine RunT.xn rfl rfl rfl (bo g6) rfl rfl ?_
      refine RunT.xn rfl rfl rfl (bo g6) rfl rfl ?_
      refine RunT.ot0 (x := .v (.bool false)) rfl rfl rfl rfl (.pickF (bo g6) rfl) ?_
      refine RunT.ot0 (x := .v (.bool false)) rfl rfl rfl rfl (.moveX rfl) ?_
      refine RunT.xn rfl rfl rfl rfl rfl rfl ?_
      refine RunT.xn rfl rfl rfl rfl rfl rfl ?_
      refine RunT.xn rfl rfl rfl rfl rfl rfl ?_
      refine RunT.ot0 (x := .v (.bool false)) rfl rfl rfl rfl (.pickF rfl rfl) ?_
      refine RunT.ot0 (x := .v (.bool false)) rfl rfl rfl rfl (.moveX rfl) ?_
      refine RunT.xn rfl rfl rfl rfl rfl rfl ?_
      refine RunT.xn rfl rfl rfl rfl rfl rfl ?_
      refine RunT.xn rfl rfl rfl rfl rfl rfl ?_
      refine RunT.ot0 (x := .v (.bool false)) rfl rfl rfl rfl (.pickF rfl rfl) ?_
      refine RunT.ot0 (x := .v (.bool false)) rfl rfl rfl rfl (.assignX rfl) ?_
      refine RunT.nil ?_
      obtain rfl := si H
      refine T.sub (sub_to (st' := ⟨[(2, .v (.bool false))], [], 8, []⟩) [] (by decide) rfl rfl (⟨⟨_, rfl, .one .v⟩, trivial⟩) (trivial)) ?_
      refine T.ret ?_
      exact RetOk.same [.v (.bool false)] ⟨rfl, trivial⟩ rfl rfl rfl
  · replace H := cf H g3
    refine RunT.xn rfl rfl rfl (bo g3) rfl rfl ?_
    refine RunT.xn rfl rfl rfl (bo g3) rfl rfl ?_
    refine RunT.xn rfl rfl rfl (bo g3) rfl rfl ?_
    refine RunT.ot0 (x := .v (.bool false)) rfl rfl rfl rfl (.pickF (bo g3) rfl) ?_
    refine RunT.ot0 (x := .v (.bool false)) rfl rfl rfl rfl (.moveX rfl) ?_
    refine RunT.xn rfl rfl rfl rfl rfl rfl ?_
    refine RunT.xn rfl rfl rfl rfl rfl rfl ?_
    refine RunT.xn rfl rfl rfl rfl rfl rfl ?_
    refine RunT.ot0 (x := .v (.bool false)) rfl rfl rfl rfl (.pickF rfl rfl) ?_
    refine RunT.ot0 (x := .v (.bool false)) rfl rfl rfl rfl (.moveX rfl) ?_
    refine RunT.xn rfl rfl rfl rfl rfl rfl ?_
    refine RunT.xn rfl rfl rfl rfl rfl rfl ?_
    refine RunT.xn rfl rfl rfl rfl rfl rfl ?_
    refine RunT.ot0 (x := .v (.bool false)) rfl rfl rfl rfl (.pickF rfl rfl) ?_
    refine RunT.ot0 (x := .v (.bool false)) rfl rfl rfl rfl (.moveX rfl) ?_
    refine RunT.xn rfl rfl rfl rfl rfl rfl ?_
    refine RunT.xn rfl rfl rfl rfl rfl rfl ?_
    refine RunT.xn rfl rfl rfl rfl rfl rfl ?_
    refine RunT.ot0 (x := .v (.bool false)) rfl rfl rfl rfl (.pickF rfl rfl) ?_
    refine RunT.ot0 (x := .v (.bool false)) rfl rfl rfl rfl (.assignX rfl) ?_
    refine RunT.nil ?_
    obtain rfl := si H
    refine T.sub (sub_to (st' := ⟨[(2, .v (.bool false))], [], 8, []⟩) [] (by decide) rfl rfl (⟨⟨_, rfl, .one .v⟩, trivial⟩) (trivial)) ?_
    refine T.ret ?_
    exact RetOk.same [.v (.bool false)] ⟨rfl, trivial⟩ rfl rfl rfl
set_option maxHeartbeats 4000000 in
theorem record_May_pc (al : Bool) (k : Nat) (a0 : Record) (o : Bool) (H : record_May k a0 = some o) : PC Try.prog al 37 [.agg [.v (.int .i64 a0.Kind), .v (.string a0.Text), .v (.int .i64 a0.Order.Id), .v (.int .i64 a0.Order.State), .v (.int .i64 a0.Order.Party.Size), .v (.int .i64 a0.Order.Party.Wheels), .v (.int .i64 a0.Order.Until), .v (.int .i64 a0.Order.First), .v (.int .i64 a0.Time)]] (.v (.bool o)) := by
  unfold record_May at H
  refine PC.of_T Try.func37 rfl rfl (n := 43) rfl rfl (.inr rfl) ?_
  intro base B w0
  refine T.st (st' := ⟨[(0, .agg [.v (.int .i64 a0.Kind), .v (.string a0.Text), .v (.int .i64 a0.Order.Id), .v (.int .i64 a0.Order.State), .v (.int .i64 a0.Order.Party.Size), .v (.int .i64 a0.Order.Party.Wheels), .v (.int .i64 a0.Order.Until), .v (.int .i64 a0.Order.First), .v (.int .i64 a0.Time)])], [], 0, []⟩) rfl ?_
  refine T.seq ?_
  refine T.region ?_
  refine RunT.ot1 (x := .ptr 0 0) (p0 := (0, some (.box [.v (.int .i64 a0.Kind), .v (.string a0.Text), .v (.int .i64 a0.Order.Id), .v (.int .i64 a0.Order.State), .v (.int .i64 a0.Order.Party.Size), .v (.int .i64 a0.Order.Party.Wheels), .v (.int .i64 a0.Order.Until), .v (.int .i64 a0.Order.First), .v (.int .i64 a0.Time)]))) (n' := 8) rfl rfl rfl rfl (.boxX rfl rfl rfl) rfl ?_
  refine RunT.ot0 (x := .v (.bool false)) rfl rfl rfl rfl (.assignX rfl) ?_
  refine RunT.nil ?_
  refine T.seq ?_
  refine T.region ?_
  refine RunT.ot0 (x := .ptr 0 0) rfl rfl rfl rfl (.fieldPX fl51_0 rfl rfl) ?_
  refine RunT.ot0 (x := .v (.int .i64 a0.Kind)) rfl rfl rfl rfl (.loadP ty3 rfl rfl rfl) ?_
  refine RunT.ot0 (x := .agg [.v (.int .i64 a0.Kind), .v (.string (⟨#[]⟩ : ByteArray)), .v (.int .i64 0), .v (.int .i64 0), .v (.int .i64 0), .v (.int .i64 0), .v (.int .i64 0), .v (.int .i64 0), .v (.int .i64 0)]) rfl rfl rfl rfl (.bu bu51 rfl) ?_
  refine RunT.ot1 (x := .ptr 8 0) (p0 := (8, some (.box [.v (.int .i64 0), .v (.string (⟨#[]⟩ : ByteArray)), .v (.int .i64 0), .v (.int .i64 0), .v (.int .i64 0), .v (.int .i64 0), .v (.int .i64 0), .v (.int .i64 0), .v (.int .i64 0)]))) (n' := 16) rfl rfl rfl rfl (.allocX in51.zero rfl rfl) rfl ?_
  refine RunT.on1 (x := .junk) (p0 := (8, some (.box [.v (.int .i64 a0.Kind), .v (.string (⟨#[]⟩ : ByteArray)), .v (.int .i64 0), .v (.int .i64 0), .v (.int .i64 0), .v (.int .i64 0), .v (.int .i64 0), .v (.int .i64 0), .v (.int .i64 0)]))) (n' := 24) rfl rfl rfl (.storePX ty51 rfl rfl rfl rfl rfl rfl rfl) rfl ?_
  refine RunT.nil ?_
  refine T.seq ?_
  refine T.region ?_
  refine RunT.ot0 (x := .v (.bool true)) rfl rfl rfl rfl (.assignX rfl) ?_
  refine RunT.nil ?_
  refine T.seq ?_
  refine T.seq ?_
  refine T.region ?_
  refine RunT.ot0 (x := .ptr 0 0) rfl rfl rfl rfl (.fieldPX fl51_0 rfl rfl) ?_
  refine RunT.ot0 (x := .v (.int .i64 a0.Kind)) rfl rfl rfl rfl (.loadP ty3 rfl rfl rfl) ?_
  refine RunT.nil ?_
  refine T.block ?_
  refine T.seq ?_
  refine T.region ?_
  refine RunT.ot0 (x := .v (.bool (decide (a0.Kind = 1)))) rfl rfl rfl rfl (.bin rfl rfl (fun w => b_eql w) rfl) ?_
  refine RunT.ot0 (x := .v (.bool (decide (a0.Kind = 1)))) rfl rfl rfl rfl (.assignX rfl) ?_
  refine RunT.nil ?_
  refine T.cond2 (t := decide (a0.Kind = 1)) rfl (fun c1 => ?_) (fun c1 => ?_)
  · replace H := ct H c1
    refine T.draw (wr := [(7, [8])]) mixed rfl rfl ?_ rfl
    refine RunD.ot0 (x := .ptr 0 1) rfl rfl rfl rfl (.fieldPX fl51_1 rfl rfl) rfl ?_
    refine RunD.ot0 (x := .v (.string a0.Text)) rfl rfl rfl rfl (.loadP ty9 rfl rfl rfl) rfl ?_
    refine RunD.ot0 (x := .ptr 0 1) rfl rfl rfl rfl (.fieldPX fl51_1 rfl rfl) rfl ?_
    refine RunD.ot0 (x := .v (.string a0.Text)) rfl rfl rfl rfl (.loadP ty9 rfl rfl rfl) rfl ?_
    refine RunD.ot0 (x := .v (.int .i64 (a0.Text.size : Int))) rfl rfl rfl rfl (.lenV rfl (fun _ w => len_str rfl Try.underlying9 w) rfl) rfl ?_
    refine RunD.ot0 (x := .v (.bool (decide ((a0.Text.size : Int) ≤ 1048576)))) rfl rfl rfl rfl (.bin rfl rfl (fun w => b_leq w) rfl) rfl ?_
    refine RunD.ot0 (x := .ptr 8 1) rfl rfl rfl rfl (.fieldPX fl51_1 rfl rfl) rfl ?_
    refine RunD.on1 (x := .junk) (p0 := (8, some (.box [.v (.int .i64 a0.Kind), .v (.string a0.Text), .v (.int .i64 0), .v (.int .i64 0), .v (.int .i64 0), .v (.int .i64 0), .v (.int .i64 0), .v (.int .i64 0), .v (.int .i64 0)]))) rfl rfl rfl (.storePX ty9 rfl rfl rfl rfl rfl rfl rfl) rfl ?_
    refine RunD.ot0 (x := .v (.bool (decide ((a0.Text.size : Int) ≤ 1048576)))) rfl rfl rfl rfl (.assignX rfl) rfl ?_
    refine RunD.nil (by kernel_rfl) ⟨rfl, rfl, ?_⟩
    refine T.seq ?_
    refine T.sub (sub_pick [1, 3, 4] [0, 8] (st' := ⟨[(1, .ptr 0 0), (3, .ptr 8 0), (4, .v (.bool (decide ((a0.Text.size : Int) ≤ 1048576))))], [(0, some (.box [.v (.int .i64 a0.Kind), .v (.string a0.Text), .v (.int .i64 a0.Order.Id), .v (.int .i64 a0.Order.State), .v (.int .i64 a0.Order.Party.Size), .v (.int .i64 a0.Order.Party.Wheels), .v (.int .i64 a0.Order.Until), .v (.int .i64 a0.Order.First), .v (.int .i64 a0.Time)])), (8, some (.box [.v (.int .i64 a0.Kind), .v (.string a0.Text), .v (.int .i64 0), .v (.int .i64 0), .v (.int .i64 0), .v (.int .i64 0), .v (.int .i64 0), .v (.int .i64 0), .v (.int .i64 0)]))], 96, []⟩) rfl rfl rfl rfl rfl) ?_
    refine T.region ?_
    refine RunT.ot0 (x := .v (.bool (decide ((a0.Text.size : Int) ≤ 1048576)))) rfl rfl rfl rfl (.moveX rfl) ?_
    refine RunT.ot0 (x := .v (.bool (decide ((a0.Text.size : Int) ≤ 1048576)))) rfl rfl rfl rfl (.moveX rfl) ?_
    refine RunT.cases (t := 38) (c := decide ((a0.Text.size : Int) ≤ 1048576)) rfl (fun g2 => ?_) (fun g2 => ?_)
    · replace H := ct H g2
      refine RunT.gt0 (x := .agg [.v (.int .i64 a0.Kind), .v (.string a0.Text), .v (.int .i64 a0.Order.Id), .v (.int .i64 a0.Order.State), .v (.int .i64 a0.Order.Party.Size), .v (.int .i64 a0.Order.Party.Wheels), .v (.int .i64 a0.Order.Until), .v (.int .i64 a0.Order.First), .v (.int .i64 a0.Time)]) rfl rfl rfl (bo g2) rfl rfl (.loadP ty51 rfl rfl rfl) ?_
      refine RunT.gt0 (x := .agg [.v (.int .i64 a0.Kind), .v (.string a0.Text), .v (.int .i64 0), .v (.int .i64 0), .v (.int .i64 0), .v (.int .i64 0), .v (.int .i64 0), .v (.int .i64 0), .v (.int .i64 0)]) rfl rfl rfl (bo g2) rfl rfl (.loadP ty51 rfl rfl rfl) ?_
      refine RunT.gt0 (x := .v (.bool (decide (a0 = Record.mk a0.Kind a0.Text (Order.mk 0 0 (Party.mk 0 0) 0 0) 0)))) rfl rfl rfl (bo g2) rfl rfl (.binA (us := us_Record (a0)) (vs := us_Record (Record.mk a0.Kind a0.Text (Order.mk 0 0 (Party.mk 0 0) 0 0) 0)) rfl rfl (fun w => eq_Record (a0) (Record.mk a0.Kind a0.Text (Order.mk 0 0 (Party.mk 0 0) 0 0) 0) w) rfl) ?_
      refine RunT.ot0 (x := .v (.bool (decide (a0 = Record.mk a0.Kind a0.Text (Order.mk 0 0 (Party.mk 0 0) 0 0) 0)))) rfl rfl rfl rfl (.pickT (bo g2) rfl) ?_
      refine RunT.ot0 (x := .v (.bool (decide (a0 = Record.mk a0.Kind a0.Text (Order.mk 0 0 (Party.mk 0 0) 0 0) 0)))) rfl rfl rfl rfl (.assignX rfl) ?_
      refine RunT.nil ?_
      obtain rfl := si H
      refine T.sub (sub_to (st' := ⟨[(2, .v (.bool (decide (a0 = Record.mk a0.Kind a0.Text (Order.mk 0 0 (Party.mk 0 0) 0 0) 0))))], [], 8, []⟩) [] (by decide) rfl rfl (⟨⟨_, rfl, .one .v⟩, trivial⟩) (trivial)) ?_
      refine T.ret ?_
      exact RetOk.same [.v (.bool (decide (a0 = Record.mk a0.Kind a0.Text (Order.mk 0 0 (Party.mk 0 0) 0 0) 0)))] ⟨rfl, trivial⟩ rfl rfl rfl
    · replace H := cf H g2
      refine RunT.xn rfl rfl rfl (bo g2) rfl rfl ?_
      refine RunT.xn rfl rfl rfl (bo g2) rfl rfl ?_
      refine RunT.xn rfl rfl rfl (bo g2) rfl rfl ?_
      refine RunT.ot0 (x := .v (.bool false)) rfl rfl rfl rfl (.pickF (bo g2) rfl) ?_
      refine RunT.ot0 (x := .v (.bool false)) rfl rfl rfl rfl (.assignX rfl) ?_
      refine RunT.nil ?_
      obtain rfl := si H
      refine T.sub (sub_to (st' := ⟨[(2, .v (.bool false))], [], 8, []⟩) [] (by decide) rfl rfl (⟨⟨_, rfl, .one .v⟩, trivial⟩) (trivial)) ?_
      refine T.ret ?_
      exact RetOk.same [.v (.bool false)] ⟨rfl, trivial⟩ rfl rfl rfl
  · replace H := cf H c1
    refine T.seq ?_
    refine T.region ?_
    refine RunT.ot0 (x := .v (.bool (decide (a0.Kind = 2)))) rfl rfl rfl rfl (.bin rfl rfl (fun w => b_eql w) rfl) ?_
    refine RunT.ot0 (x := .v (.bool (decide (a0.Kind = 2)))) rfl rfl rfl rfl (.assignX rfl) ?_
    refine RunT.nil ?_
    refine T.cond2 (t := decide (a0.Kind = 2)) rfl (fun c3 => ?_) (fun c3 => ?_)
    · replace H := ct H c3
      refine T.draw (wr := [(6, [8])]) mixed rfl rfl ?_ rfl
      refine RunD.ot0 (x := .ptr 0 2) rfl rfl rfl rfl (.fieldPX fl51_2 rfl rfl) rfl ?_
      refine RunD.ot0 (x := .agg [.v (.int .i64 a0.Order.Id), .v (.int .i64 a0.Order.State), .v (.int .i64 a0.Order.Party.Size), .v (.int .i64 a0.Order.Party.Wheels), .v (.int .i64 a0.Order.Until), .v (.int .i64 a0.Order.First)]) rfl rfl rfl rfl (.loadP ty49 rfl rfl rfl) rfl ?_
      refine RunD.ot0 (x := .ptr 0 2) rfl rfl rfl rfl (.fieldPX fl51_2 rfl rfl) rfl ?_
      refine RunD.ot0 (x := .agg [.v (.int .i64 a0.Order.Id), .v (.int .i64 a0.Order.State), .v (.int .i64 a0.Order.Party.Size), .v (.int .i64 a0.Order.Party.Wheels), .v (.int .i64 a0.Order.Until), .v (.int .i64 a0.Order.First)]) rfl rfl rfl rfl (.loadP ty49 rfl rfl rfl) rfl ?_
      obtain ⟨r6, h7, H⟩ := bs H
      refine RunD.ot0 (x := .v (.bool r6)) rfl rfl rfl rfl (.callp (record_order_pc false k a0.Order r6 h7) rfl ⟨(.agg' ⟨.v, .v, .v, .v, .v, .v, trivial⟩), trivial⟩ rfl rfl rfl) rfl ?_
      refine RunD.ot0 (x := .ptr 8 2) rfl rfl rfl rfl (.fieldPX fl51_2 rfl rfl) rfl ?_
      refine RunD.on1 (x := .junk) (p0 := (8, some (.box [.v (.int .i64 a0.Kind), .v (.string (⟨#[]⟩ : ByteArray)), .v (.int .i64 a0.Order.Id), .v (.int .i64 a0.Order.State), .v (.int .i64 a0.Order.Party.Size), .v (.int .i64 a0.Order.Party.Wheels), .v (.int .i64 a0.Order.Until), .v (.int .i64 a0.Order.First), .v (.int .i64 0)]))) rfl rfl rfl (.storePX ty49 rfl rfl rfl rfl rfl rfl rfl) rfl ?_
      refine RunD.ot0 (x := .v (.bool r6)) rfl rfl rfl rfl (.assignX rfl) rfl ?_
      refine RunD.nil (by kernel_rfl) ⟨rfl, rfl, ?_⟩
      refine T.seq ?_
      refine T.sub (sub_pick [1, 3, 4] [0, 8] (st' := ⟨[(1, .ptr 0 0), (3, .ptr 8 0), (4, .v (.bool r6))], [(0, some (.box [.v (.int .i64 a0.Kind), .v (.string a0.Text), .v (.int .i64 a0.Order.Id), .v (.int .i64 a0.Order.State), .v (.int .i64 a0.Order.Party.Size), .v (.int .i64 a0.Order.Party.Wheels), .v (.int .i64 a0.Order.Until), .v (.int .i64 a0.Order.First), .v (.int .i64 a0.Time)])), (8, some (.box [.v (.int .i64 a0.Kind), .v (.string (⟨#[]⟩ : ByteArray)), .v (.int .i64 a0.Order.Id), .v (.int .i64 a0.Order.State), .v (.int .i64 a0.Order.Party.Size), .v (.int .i64 a0.Order.Party.Wheels), .v (.int .i64 a0.Order.Until), .v (.int .i64 a0.Order.First), .v (.int .i64 0)]))], 88, []⟩) rfl rfl rfl rfl rfl) ?_
      refine T.region ?_
      refine RunT.ot0 (x := .v (.bool r6)) rfl rfl rfl rfl (.moveX rfl) ?_
      refine RunT.ot0 (x := .v (.bool r6)) rfl rfl rfl rfl (.moveX rfl) ?_
      refine RunT.cases (t := 38) (c := r6) rfl (fun g8 => ?_) (fun g8 => ?_)
      · replace H := ct H g8
        refine RunT.gt0 (x := .agg [.v (.int .i64 a0.Kind), .v (.string a0.Text), .v (.int .i64 a0.Order.Id), .v (.int .i64 a0.Order.State), .v (.int .i64 a0.Order.Party.Size), .v (.int .i64 a0.Order.Party.Wheels), .v (.int .i64 a0.Order.Until), .v (.int .i64 a0.Order.First), .v (.int .i64 a0.Time)]) rfl rfl rfl (bo g8) rfl rfl (.loadP ty51 rfl rfl rfl) ?_
        refine RunT.gt0 (x := .agg [.v (.int .i64 a0.Kind), .v (.string (⟨#[]⟩ : ByteArray)), .v (.int .i64 a0.Order.Id), .v (.int .i64 a0.Order.State), .v (.int .i64 a0.Order.Party.Size), .v (.int .i64 a0.Order.Party.Wheels), .v (.int .i64 a0.Order.Until), .v (.int .i64 a0.Order.First), .v (.int .i64 0)]) rfl rfl rfl (bo g8) rfl rfl (.loadP ty51 rfl rfl rfl) ?_
        refine RunT.gt0 (x := .v (.bool (decide (a0 = Record.mk a0.Kind (⟨#[]⟩ : ByteArray) a0.Order 0)))) rfl rfl rfl (bo g8) rfl rfl (.binA (us := us_Record (a0)) (vs := us_Record (Record.mk a0.Kind (⟨#[]⟩ : ByteArray) a0.Order 0)) rfl rfl (fun w => eq_Record (a0) (Record.mk a0.Kind (⟨#[]⟩ : ByteArray) a0.Order 0) w) rfl) ?_
        refine RunT.ot0 (x := .v (.bool (decide (a0 = Record.mk a0.Kind (⟨#[]⟩ : ByteArray) a0.Order 0)))) rfl rfl rfl rfl (.pickT (bo g8) rfl) ?_
        refine RunT.ot0 (x := .v (.bool (decide (a0 = Record.mk a0.Kind (⟨#[]⟩ : ByteArray) a0.Order 0)))) rfl rfl rfl rfl (.assignX rfl) ?_
        refine RunT.nil ?_
        obtain rfl := si H
        refine T.sub (sub_to (st' := ⟨[(2, .v (.bool (decide (a0 = Record.mk a0.Kind (⟨#[]⟩ : ByteArray) a0.Order 0))))], [], 8, []⟩) [] (by decide) rfl rfl (⟨⟨_, rfl, .one .v⟩, trivial⟩) (trivial)) ?_
        refine T.ret ?_
        exact RetOk.same [.v (.bool (decide (a0 = Record.mk a0.Kind (⟨#[]⟩ : ByteArray) a0.Order 0)))] ⟨rfl, trivial⟩ rfl rfl rfl
      · replace H := cf H g8
        refine RunT.xn rfl rfl rfl (bo g8) rfl rfl ?_
        refine RunT.xn rfl rfl rfl (bo g8) rfl rfl ?_
        refine RunT.xn rfl rfl rfl (bo g8) rfl rfl ?_
        refine RunT.ot0 (x := .v (.bool false)) rfl rfl rfl rfl (.pickF (bo g8) rfl) ?_
        refine RunT.ot0 (x := .v (.bool false)) rfl rfl rfl rfl (.assignX rfl) ?_
        refine RunT.nil ?_
        obtain rfl := si H
        refine T.sub (sub_to (st' := ⟨[(2, .v (.bool false))], [], 8, []⟩) [] (by decide) rfl rfl (⟨⟨_, rfl, .one .v⟩, trivial⟩) (trivial)) ?_
        refine T.ret ?_
        exact RetOk.same [.v (.bool false)] ⟨rfl, trivial⟩ rfl rfl rfl
    · replace H := cf H c3
      refine T.seq ?_
      refine T.region ?_
      refine RunT.ot0 (x := .v (.bool (decide (a0.Kind = 3)))) rfl rfl rfl rfl (.bin rfl rfl (fun w => b_eql w) rfl) ?_
      refine RunT.ot0 (x := .v (.bool (decide (a0.Kind = 3)))) rfl rfl rfl rfl (.assignX rfl) ?_
      refine RunT.nil ?_
      refine T.cond2 (t := decide (a0.Kind = 3)) rfl (fun c9 => ?_) (fun c9 => ?_)
      · replace H := ct H c9
        refine T.draw (wr := [(6, [8])]) mixed rfl rfl ?_ rfl
        refine RunD.ot0 (x := .ptr 0 8) rfl rfl rfl rfl (.fieldPX fl51_3 rfl rfl) rfl ?_
        refine RunD.ot0 (x := .v (.int .i64 a0.Time)) rfl rfl rfl rfl (.loadP ty2 rfl rfl rfl) rfl ?_
        refine RunD.ot0 (x := .ptr 0 8) rfl rfl rfl rfl (.fieldPX fl51_3 rfl rfl) rfl ?_
        refine RunD.ot0 (x := .v (.int .i64 a0.Time)) rfl rfl rfl rfl (.loadP ty2 rfl rfl rfl) rfl ?_
        obtain ⟨r12, h13, H⟩ := bs H
        refine RunD.ot0 (x := .v (.bool r12)) rfl rfl rfl rfl (.callp (record_in_pc false k a0.Time 0 1099511627776 r12 h13) rfl ⟨(.one .v), (.one .v), (.one .v), trivial⟩ rfl rfl rfl) rfl ?_
        refine RunD.ot0 (x := .ptr 8 8) rfl rfl rfl rfl (.fieldPX fl51_3 rfl rfl) rfl ?_
        refine RunD.on1 (x := .junk) (p0 := (8, some (.box [.v (.int .i64 a0.Kind), .v (.string (⟨#[]⟩ : ByteArray)), .v (.int .i64 0), .v (.int .i64 0), .v (.int .i64 0), .v (.int .i64 0), .v (.int .i64 0), .v (.int .i64 0), .v (.int .i64 a0.Time)]))) rfl rfl rfl (.storePX ty2 rfl rfl rfl rfl rfl rfl rfl) rfl ?_
        refine RunD.ot0 (x := .v (.bool r12)) rfl rfl rfl rfl (.assignX rfl) rfl ?_
        refine RunD.nil (by kernel_rfl) ⟨rfl, rfl, ?_⟩
        refine T.seq ?_
        refine T.sub (sub_pick [1, 3, 4] [0, 8] (st' := ⟨[(1, .ptr 0 0), (3, .ptr 8 0), (4, .v (.bool r12))], [(0, some (.box [.v (.int .i64 a0.Kind), .v (.string a0.Text), .v (.int .i64 a0.Order.Id), .v (.int .i64 a0.Order.State), .v (.int .i64 a0.Order.Party.Size), .v (.int .i64 a0.Order.Party.Wheels), .v (.int .i64 a0.Order.Until), .v (.int .i64 a0.Order.First), .v (.int .i64 a0.Time)])), (8, some (.box [.v (.int .i64 a0.Kind), .v (.string (⟨#[]⟩ : ByteArray)), .v (.int .i64 0), .v (.int .i64 0), .v (.int .i64 0), .v (.int .i64 0), .v (.int .i64 0), .v (.int .i64 0), .v (.int .i64 a0.Time)]))], 88, []⟩) rfl rfl rfl rfl rfl) ?_
        refine T.region ?_
        refine RunT.ot0 (x := .v (.bool r12)) rfl rfl rfl rfl (.moveX rfl) ?_
        refine RunT.ot0 (x := .v (.bool r12)) rfl rfl rfl rfl (.moveX rfl) ?_
        refine RunT.cases (t := 38) (c := r12) rfl (fun g14 => ?_) (fun g14 => ?_)
        · replace H := ct H g14
          refine RunT.gt0 (x := .agg [.v (.int .i64 a0.Kind), .v (.string a0.Text), .v (.int .i64 a0.Order.Id), .v (.int .i64 a0.Order.State), .v (.int .i64 a0.Order.Party.Size), .v (.int .i64 a0.Order.Party.Wheels), .v (.int .i64 a0.Order.Until), .v (.int .i64 a0.Order.First), .v (.int .i64 a0.Time)]) rfl rfl rfl (bo g14) rfl rfl (.loadP ty51 rfl rfl rfl) ?_
          refine RunT.gt0 (x := .agg [.v (.int .i64 a0.Kind), .v (.string (⟨#[]⟩ : ByteArray)), .v (.int .i64 0), .v (.int .i64 0), .v (.int .i64 0), .v (.int .i64 0), .v (.int .i64 0), .v (.int .i64 0), .v (.int .i64 a0.Time)]) rfl rfl rfl (bo g14) rfl rfl (.loadP ty51 rfl rfl rfl) ?_
          refine RunT.gt0 (x := .v (.bool (decide (a0 = Record.mk a0.Kind (⟨#[]⟩ : ByteArray) (Order.mk 0 0 (Party.mk 0 0) 0 0) a0.Time)))) rfl rfl rfl (bo g14) rfl rfl (.binA (us := us_Record (a0)) (vs := us_Record (Record.mk a0.Kind (⟨#[]⟩ : ByteArray) (Order.mk 0 0 (Party.mk 0 0) 0 0) a0.Time)) rfl rfl (fun w => eq_Record (a0) (Record.mk a0.Kind (⟨#[]⟩ : ByteArray) (Order.mk 0 0 (Party.mk 0 0) 0 0) a0.Time) w) rfl) ?_
          refine RunT.ot0 (x := .v (.bool (decide (a0 = Record.mk a0.Kind (⟨#[]⟩ : ByteArray) (Order.mk 0 0 (Party.mk 0 0) 0 0) a0.Time)))) rfl rfl rfl rfl (.pickT (bo g14) rfl) ?_
          refine RunT.ot0 (x := .v (.bool (decide (a0 = Record.mk a0.Kind (⟨#[]⟩ : ByteArray) (Order.mk 0 0 (Party.mk 0 0) 0 0) a0.Time)))) rfl rfl rfl rfl (.assignX rfl) ?_
          refine RunT.nil ?_
          obtain rfl := si H
          refine T.sub (sub_to (st' := ⟨[(2, .v (.bool (decide (a0 = Record.mk a0.Kind (⟨#[]⟩ : ByteArray) (Order.mk 0 0 (Party.mk 0 0) 0 0) a0.Time))))], [], 8, []⟩) [] (by decide) rfl rfl (⟨⟨_, rfl, .one .v⟩, trivial⟩) (trivial)) ?_
          refine T.ret ?_
          exact RetOk.same [.v (.bool (decide (a0 = Record.mk a0.Kind (⟨#[]⟩ : ByteArray) (Order.mk 0 0 (Party.mk 0 0) 0 0) a0.Time)))] ⟨rfl, trivial⟩ rfl rfl rfl
        · replace H := cf H g14
          refine RunT.xn rfl rfl rfl (bo g14) rfl rfl ?_
          refine RunT.xn rfl rfl rfl (bo g14) rfl rfl ?_
          refine RunT.xn rfl rfl rfl (bo g14) rfl rfl ?_
          refine RunT.ot0 (x := .v (.bool false)) rfl rfl rfl rfl (.pickF (bo g14) rfl) ?_
          refine RunT.ot0 (x := .v (.bool false)) rfl rfl rfl rfl (.assignX rfl) ?_
          refine RunT.nil ?_
          obtain rfl := si H
          refine T.sub (sub_to (st' := ⟨[(2, .v (.bool false))], [], 8, []⟩) [] (by decide) rfl rfl (⟨⟨_, rfl, .one .v⟩, trivial⟩) (trivial)) ?_
          refine T.ret ?_
          exact RetOk.same [.v (.bool false)] ⟨rfl, trivial⟩ rfl rfl rfl
      · replace H := cf H c9
        refine T.seq ?_
        refine T.region ?_
        refine RunT.ot0 (x := .v (.bool (decide (a0.Kind = 4)))) rfl rfl rfl rfl (.bin rfl rfl (fun w => b_eql w) rfl) ?_
        refine RunT.ot0 (x := .v (.bool (decide (a0.Kind = 4)))) rfl rfl rfl rfl (.assignX rfl) ?_
        refine RunT.nil ?_
        refine T.cond2 (t := decide (a0.Kind = 4)) rfl (fun c15 => ?_) (fun c15 => ?_)
        · replace H := ct H c15
          refine T.skip ?_
          refine T.seq ?_
          refine T.region ?_
          refine RunT.ot0 (x := .v (.bool true)) rfl rfl rfl rfl (.moveX rfl) ?_
          refine RunT.ot0 (x := .v (.bool true)) rfl rfl rfl rfl (.moveX rfl) ?_
          refine RunT.gt0 (x := .agg [.v (.int .i64 a0.Kind), .v (.string a0.Text), .v (.int .i64 a0.Order.Id), .v (.int .i64 a0.Order.State), .v (.int .i64 a0.Order.Party.Size), .v (.int .i64 a0.Order.Party.Wheels), .v (.int .i64 a0.Order.Until), .v (.int .i64 a0.Order.First), .v (.int .i64 a0.Time)]) rfl rfl rfl rfl rfl rfl (.loadP ty51 rfl rfl rfl) ?_
          refine RunT.gt0 (x := .agg [.v (.int .i64 a0.Kind), .v (.string (⟨#[]⟩ : ByteArray)), .v (.int .i64 0), .v (.int .i64 0), .v (.int .i64 0), .v (.int .i64 0), .v (.int .i64 0), .v (.int .i64 0), .v (.int .i64 0)]) rfl rfl rfl rfl rfl rfl (.loadP ty51 rfl rfl rfl) ?_
          refine RunT.gt0 (x := .v (.bool (decide (a0 = Record.mk a0.Kind (⟨#[]⟩ : ByteArray) (Order.mk 0 0 (Party.mk 0 0) 0 0) 0)))) rfl rfl rfl rfl rfl rfl (.binA (us := us_Record (a0)) (vs := us_Record (Record.mk a0.Kind (⟨#[]⟩ : ByteArray) (Order.mk 0 0 (Party.mk 0 0) 0 0) 0)) rfl rfl (fun w => eq_Record (a0) (Record.mk a0.Kind (⟨#[]⟩ : ByteArray) (Order.mk 0 0 (Party.mk 0 0) 0 0) 0) w) rfl) ?_
          refine RunT.ot0 (x := .v (.bool (decide (a0 = Record.mk a0.Kind (⟨#[]⟩ : ByteArray) (Order.mk 0 0 (Party.mk 0 0) 0 0) 0)))) rfl rfl rfl rfl (.pickT rfl rfl) ?_
          refine RunT.ot0 (x := .v (.bool (decide (a0 = Record.mk a0.Kind (⟨#[]⟩ : ByteArray) (Order.mk 0 0 (Party.mk 0 0) 0 0) 0)))) rfl rfl rfl rfl (.assignX rfl) ?_
          refine RunT.nil ?_
          obtain rfl := si H
          refine T.sub (sub_to (st' := ⟨[(2, .v (.bool (decide (a0 = Record.mk a0.Kind (⟨#[]⟩ : ByteArray) (Order.mk 0 0 (Party.mk 0 0) 0 0) 0))))], [], 8, []⟩) [] (by decide) rfl rfl (⟨⟨_, rfl, .one .v⟩, trivial⟩) (trivial)) ?_
          refine T.ret ?_
          exact RetOk.same [.v (.bool (decide (a0 = Record.mk a0.Kind (⟨#[]⟩ : ByteArray) (Order.mk 0 0 (Party.mk 0 0) 0 0) 0)))] ⟨rfl, trivial⟩ rfl rfl rfl
        · replace H := cf H c15
          refine T.seq ?_
          refine T.sub (sub_pick [] [] (st' := ⟨[], [], 24, []⟩) rfl rfl rfl rfl rfl) ?_
          refine T.region ?_
          refine RunT.ot0 (x := .v (.bool false)) rfl rfl rfl rfl (.assignX rfl) ?_
          refine RunT.nil ?_
          obtain rfl := si H
          refine T.sub (sub_to (st' := ⟨[(2, .v (.bool false))], [], 8, []⟩) [] (by decide) rfl rfl (⟨⟨_, rfl, .one .v⟩, trivial⟩) (trivial)) ?_
          refine T.ret ?_
          exact RetOk.same [.v (.bool false)] ⟨rfl, trivial⟩ rfl rfl rfl
set_option maxHeartbeats 4000000 in
theorem sum_Put_pc (al : Bool) (k : Nat) (a0 : Int) (o : (List Int)) (H : sum_Put k a0 = some o) : PC Try.prog al 46 [.v (.int .u32 a0)] (.frs 1 (List.map eU8 o)) := by
  unfold sum_Put at H
  refine PC.of_T Try.func46 rfl rfl (n := 19) rfl rfl (.inr (flat1_frs (sz := 1) fl_U8)) ?_
  intro base B w0
  refine T.st (st' := ⟨[(0, .v (.int .u32 a0))], [], 0, []⟩) rfl ?_
  refine T.seq ?_
  refine T.region ?_
  refine RunT.ot0 (x := .v (.slice none 0 0)) rfl rfl rfl rfl (.assignX rfl) ?_
  refine RunT.nil ?_
  refine T.seq ?_
  refine T.region ?_
  refine RunT.ot0 (x := .v (.slice none 0 0)) rfl rfl rfl rfl (.assignX rfl) ?_
  refine RunT.nil ?_
  refine T.seq ?_
  refine T.seq ?_
  refine T.region ?_
  refine RunT.ot0 (x := .v (.int .i64 0)) rfl rfl rfl rfl (.moveX rfl) ?_
  refine RunT.nil ?_
  obtain ⟨o9, E10, HO11⟩ := bs H
  refine T.cutE (⟨[(3, .own 0 0 o9.length)], [(0, some (.arr false 1 (List.map eU8 o9)))], 8, []⟩) ?_ ?_
  · have H := E10
    refine T.block ?_
    refine T.loopS (fun n s => ∃ (v12 : (List Int)) (v13 : Int), sum_Put_l0 k a0 n v12 v13 = some o9 ∧ s = ⟨[(0, .v (.int .u32 a0)), (3, .own 0 0 v12.length), (5, .v (.int .i64 v13))], [(0, some (.arr false 1 (List.map eU8 v12)))], 8, []⟩) k ⟨_, ⟨[], 0, H, rfl⟩, sub_to [none] (by decide) rfl rfl (⟨⟨_, rfl, .one .v⟩, ⟨⟨_, rfl, .one .nilO⟩, ⟨⟨_, rfl, .one .v⟩, trivial⟩⟩⟩) (⟨⟨rfl, .inr ⟨rfl, false, _, rfl, (by decide)⟩⟩, trivial⟩)⟩ ?_
    rintro n s ⟨v12, v13, H, rfl⟩
    rcases n with _ | n
    · cases (show none = some _ from H)
    rw [sum_Put_l0] at H
    refine T.seq ?_
    refine T.sub (sub_pick [0, 3, 5] [0] (st' := ⟨[(0, .v (.int .u32 a0)), (3, .own 0 0 v12.length), (5, .v (.int .i64 v13))], [(0, some (.arr false 1 (List.map eU8 v12)))], 8, []⟩) rfl rfl rfl rfl rfl) ?_
    refine T.region ?_
    refine RunT.ot0 (x := .v (.bool (decide (v13 < 4)))) rfl rfl rfl rfl (.bin rfl rfl (fun w => b_lss w) rfl) ?_
    refine RunT.nil ?_
    refine T.seq ?_
    refine T.cond2 (t := decide (v13 < 4)) rfl (fun c14 => ?_) (fun c14 => ?_)
    · replace H := ct H c14
      refine T.skip ?_
      refine T.seq ?_
      refine T.block ?_
      refine T.seq ?_
      refine T.region ?_
      refine RunT.ot0 (x := .v (.int .i64 v13)) rfl rfl rfl rfl (.moveX rfl) ?_
      refine RunT.ot0 (x := .v (.int .i64 v13)) rfl rfl rfl rfl (.assignX rfl) ?_
      refine RunT.nil ?_
      refine T.region ?_
      refine RunT.ot0 (x := .own 0 0 v12.length) rfl rfl rfl rfl (.moveX rfl) ?_
      refine RunT.ot0 (x := .v (.int .u32 a0)) rfl rfl rfl rfl (.moveX rfl) ?_
      refine RunT.ot0 (x := .v (.int .i64 v13)) rfl rfl rfl rfl (.moveX rfl) ?_
      refine RunT.ot0 (x := .v (.int .i64 (wr (8 * v13)))) rfl rfl rfl rfl (.bin rfl rfl (fun w => b_mulw w) rfl) ?_
      refine RunT.ot0 (x := .v (.int .u64 (IntKind.u64.wrap (wr (8 * v13))))) rfl rfl rfl rfl (.conv rfl (fun w => c_int w ⟨_, Try.underlying3⟩ Try.underlying31) rfl) ?_
      obtain ⟨h15, H⟩ := gs H
      refine RunT.ot0 (x := .v (.int .u32 (a0.fdiv (2 ^ (min (IntKind.u64.wrap (wr (8 * v13))).toNat IntKind.u32.bits))))) rfl rfl rfl rfl (.bin rfl rfl (fun w => b_shr w (of_decide_eq_true h15)) rfl) ?_
      refine RunT.ot0 (x := .v (.int .u8 (IntKind.u8.wrap (a0.fdiv (2 ^ (min (IntKind.u64.wrap (wr (8 * v13))).toNat IntKind.u32.bits)))))) rfl rfl rfl rfl (.conv rfl (fun w => c_int w ⟨_, Try.underlying68⟩ Try.underlying5) rfl) ?_
      refine RunT.ot1 (x := .own 8 0 (([IntKind.u8.wrap (a0.fdiv (2 ^ (min (IntKind.u64.wrap (wr (8 * v13))).toNat IntKind.u32.bits)))]).length)) (p0 := (8, some (.arr false 1 (List.map eU8 [IntKind.u8.wrap (a0.fdiv (2 ^ (min (IntKind.u64.wrap (wr (8 * v13))).toNat IntKind.u32.bits)))])))) (n' := 16) rfl rfl rfl rfl (.bslicem (d := false) (l := [IntKind.u8.wrap (a0.fdiv (2 ^ (min (IntKind.u64.wrap (wr (8 * v13))).toNat IntKind.u32.bits)))]) (f := eU8) sl35 rfl rfl rfl enc_U8 rfl) rfl ?_
      obtain ⟨h16, H⟩ := gs H
      refine RunT.ot2 (x := .own 16 0 ((v12 ++ [IntKind.u8.wrap (a0.fdiv (2 ^ (min (IntKind.u64.wrap (wr (8 * v13))).toNat IntKind.u32.bits)))]).length)) (p0 := (16, some (.arr false 1 (List.map eU8 (v12 ++ [IntKind.u8.wrap (a0.fdiv (2 ^ (min (IntKind.u64.wrap (wr (8 * v13))).toNat IntKind.u32.bits)))]))))) (p1 := (0, none)) (n' := 24) rfl rfl rfl rfl (.appOn (d := false) (l := v12) (m := [IntKind.u8.wrap (a0.fdiv (2 ^ (min (IntKind.u64.wrap (wr (8 * v13))).toNat IntKind.u32.bits)))]) (f := eU8) rfl sl35 rfl rfl rfl (.ownn Try.underlying35 rfl rfl (fun h => by cases h)) rfl h16) rfl ?_
      refine RunT.ot0 (x := .own 16 0 ((v12 ++ [IntKind.u8.wrap (a0.fdiv (2 ^ (min (IntKind.u64.wrap (wr (8 * v13))).toNat IntKind.u32.bits)))]).length)) rfl rfl rfl rfl (.assignX rfl) ?_
      refine RunT.nil ?_
      refine T.region ?_
      refine RunT.ot0 (x := .v (.int .i64 (wr (v13 + 1)))) rfl rfl rfl rfl (.bin rfl rfl (fun w => b_addw w) rfl) ?_
      refine RunT.ot0 (x := .v (.int .i64 (wr (v13 + 1)))) rfl rfl rfl rfl (.moveX rfl) ?_
      refine RunT.nil ?_
      exact ⟨n, Nat.lt_succ_self n, _, ⟨v12 ++ [IntKind.u8.wrap (a0.fdiv (2 ^ (min (IntKind.u64.wrap (wr (8 * v13))).toNat IntKind.u32.bits)))], wr (v13 + 1), H, rfl⟩, (sub_to [some 16] (by decide) rfl rfl (⟨⟨_, rfl, .one .v⟩, ⟨⟨_, rfl, .one (.own rfl)⟩, ⟨⟨_, rfl, .one .v⟩, trivial⟩⟩⟩) (⟨⟨rfl, .inl ⟨_, _, rfl, rfl, .arr rfl⟩⟩, trivial⟩))⟩
    · replace H := cf H c14
      refine T.exit ?_
      obtain rfl := si H
      exact (sub_to [some 0] (by decide) rfl rfl (⟨⟨_, rfl, .one (.own rfl)⟩, trivial⟩) (⟨⟨rfl, .inl ⟨_, _, rfl, rfl, .arr rfl⟩⟩, trivial⟩))
  · intro s hS
    have H := HO11
    refine T.sub hS ?_
    refine T.seq ?_
    refine T.region ?_
    refine RunT.ot0 (x := .own 0 0 o9.length) rfl rfl rfl rfl (.moveX rfl) ?_
    refine RunT.ot0 (x := .own 0 0 o9.length) rfl rfl rfl rfl (.assignX rfl) ?_
    refine RunT.nil ?_
    obtain rfl := si H
    refine T.sub (sub_to (st' := ⟨[(2, .own 0 0 ((List.map eU8 o9).length))], [(0, some (.arr false 1 (List.map eU8 o9)))], 8, []⟩) [some 0] (by decide) rfl rfl (⟨⟨_, rfl, .one (.own' rfl (List.length_map _).symm)⟩, trivial⟩) (⟨⟨rfl, .inl ⟨_, _, rfl, rfl, .arr rfl⟩⟩, trivial⟩)) ?_
    refine T.ret ?_
    exact RetOk.same [.own 0 0 ((List.map eU8 o9).length)] ⟨rfl, trivial⟩ rfl rfl rfl
set_option maxHeartbeats 4000000 in
theorem record_time_pc (al : Bool) (k : Nat) (a0 : Int) (o : (List Int)) (H : record_time k a0 = some o) : PC Try.prog al 45 [.v (.int .i64 a0)] (.frs 1 (List.map eU8 o)) := by
  unfold record_time at H
  refine PC.of_T Try.func45 rfl rfl (n := 11) rfl rfl (.inr (flat1_frs (sz := 1) fl_U8)) ?_
  intro base B w0
  refine T.st (st' := ⟨[(0, .v (.int .i64 a0))], [], 0, []⟩) rfl ?_
  refine T.seq ?_
  refine T.region ?_
  refine RunT.ot0 (x := .v (.slice none 0 0)) rfl rfl rfl rfl (.assignX rfl) ?_
  refine RunT.nil ?_
  refine T.seq ?_
  refine T.region ?_
  refine RunT.ot0 (x := .v (.int .i64 a0)) rfl rfl rfl rfl (.moveX rfl) ?_
  refine RunT.ot0 (x := .v (.int .u32 (IntKind.u32.wrap a0))) rfl rfl rfl rfl (.conv rfl (fun w => c_int w ⟨_, Try.underlying2⟩ Try.underlying68) rfl) ?_
  obtain ⟨r1, h2, H⟩ := bs H
  refine RunT.ot1 (x := .own 0 0 ((List.map eU8 r1).length)) (p0 := (0, some (.arr false 1 (List.map eU8 r1)))) (n' := 8) rfl rfl rfl rfl (.callp (sum_Put_pc false k (IntKind.u32.wrap a0) r1 h2) rfl ⟨(.one .v), trivial⟩ rfl rfl rfl) rfl ?_
  refine RunT.ot0 (x := .v (.int .i64 a0)) rfl rfl rfl rfl (.moveX rfl) ?_
  refine RunT.ot0 (x := .v (.int .i64 (a0.fdiv (2 ^ (min (32 : Int).toNat IntKind.i64.bits))))) rfl rfl rfl rfl (.bin rfl rfl (fun w => b_shr w (by decide)) rfl) ?_
  refine RunT.ot0 (x := .v (.int .u32 (IntKind.u32.wrap (a0.fdiv (2 ^ (min (32 : Int).toNat IntKind.i64.bits)))))) rfl rfl rfl rfl (.conv rfl (fun w => c_int w ⟨_, Try.underlying2⟩ Try.underlying68) rfl) ?_
  obtain ⟨r3, h4, H⟩ := bs H
  refine RunT.ot0 (x := .lst (List.map eU8 r3)) rfl rfl rfl rfl (.callp (PC.frozen (sum_Put_pc false k (IntKind.u32.wrap (a0.fdiv (2 ^ (min (32 : Int).toNat IntKind.i64.bits)))) r3 h4)) rfl ⟨(.one .v), trivial⟩ rfl rfl rfl) ?_
  obtain ⟨h5, H⟩ := gs H
  refine RunT.ot2 (x := .own 8 0 ((r1 ++ r3).length)) (p0 := (8, some (.arr false 1 (List.map eU8 (r1 ++ r3))))) (p1 := (0, none)) (n' := 16) rfl rfl rfl rfl (.appOn (d := false) (l := r1) (m := r3) (f := eU8) (List.length_map _) sl35 rfl rfl rfl (.lstm Try.underlying35 enc_U8) rfl h5) rfl ?_
  refine RunT.ot0 (x := .own 8 0 ((r1 ++ r3).length)) rfl rfl rfl rfl (.assignX rfl) ?_
  refine RunT.nil ?_
  obtain rfl := si H
  refine T.sub (sub_to (st' := ⟨[(2, .own 0 0 ((List.map eU8 (r1 ++ r3)).length))], [(0, some (.arr false 1 (List.map eU8 (r1 ++ r3))))], 8, []⟩) [some 8] (by decide) rfl rfl (⟨⟨_, rfl, .one (.own' rfl (List.length_map _).symm)⟩, trivial⟩) (⟨⟨rfl, .inl ⟨_, _, rfl, rfl, .arr rfl⟩⟩, trivial⟩)) ?_
  refine T.ret ?_
  exact RetOk.same [.own 0 0 ((List.map eU8 (r1 ++ r3)).length)] ⟨rfl, trivial⟩ rfl rfl rfl
set_option maxHeartbeats 4000000 in
theorem record_Put_pc (al : Bool) (k : Nat) (a0 : Record) (o : (List Int) × Int) (H : record_Put k a0 = some o) : PC Try.prog al 33 [.agg [.v (.int .i64 a0.Kind), .v (.string a0.Text), .v (.int .i64 a0.Order.Id), .v (.int .i64 a0.Order.State), .v (.int .i64 a0.Order.Party.Size), .v (.int .i64 a0.Order.Party.Wheels), .v (.int .i64 a0.Order.Until), .v (.int .i64 a0.Order.First), .v (.int .i64 a0.Time)]] (.tup [.frs 1 (List.map eU8 o.1), .v (.int .i64 o.2)]) := by
  unfold record_Put at H
  refine PC.of_T Try.func33 rfl rfl (n := 67) rfl rfl (.inr (flatT_tup ⟨(flat1_frs (sz := 1) fl_U8), rfl, trivial⟩)) ?_
  intro base B w0
  refine T.st (st' := ⟨[(0, .agg [.v (.int .i64 a0.Kind), .v (.string a0.Text), .v (.int .i64 a0.Order.Id), .v (.int .i64 a0.Order.State), .v (.int .i64 a0.Order.Party.Size), .v (.int .i64 a0.Order.Party.Wheels), .v (.int .i64 a0.Order.Until), .v (.int .i64 a0.Order.First), .v (.int .i64 a0.Time)])], [], 0, []⟩) rfl ?_
  refine T.seq ?_
  refine T.region ?_
  refine RunT.ot1 (x := .ptr 0 0) (p0 := (0, some (.box [.v (.int .i64 a0.Kind), .v (.string a0.Text), .v (.int .i64 a0.Order.Id), .v (.int .i64 a0.Order.State), .v (.int .i64 a0.Order.Party.Size), .v (.int .i64 a0.Order.Party.Wheels), .v (.int .i64 a0.Order.Until), .v (.int .i64 a0.Order.First), .v (.int .i64 a0.Time)]))) (n' := 8) rfl rfl rfl rfl (.boxX rfl rfl rfl) rfl ?_
  refine RunT.ot0 (x := .v (.slice none 0 0)) rfl rfl rfl rfl (.assignX rfl) ?_
  refine RunT.ot0 (x := .v (.int .i64 0)) rfl rfl rfl rfl (.assignX rfl) ?_
  refine RunT.nil ?_
  refine T.seq ?_
  refine T.seq ?_
  refine T.region ?_
  refine RunT.ot0 (x := .agg [.v (.int .i64 a0.Kind), .v (.string a0.Text), .v (.int .i64 a0.Order.Id), .v (.int .i64 a0.Order.State), .v (.int .i64 a0.Order.Party.Size), .v (.int .i64 a0.Order.Party.Wheels), .v (.int .i64 a0.Order.Until), .v (.int .i64 a0.Order.First), .v (.int .i64 a0.Time)]) rfl rfl rfl rfl (.loadP ty51 rfl rfl rfl) ?_
  obtain ⟨r1, h2, H⟩ := bs H
  refine RunT.ot0 (x := .v (.bool r1)) rfl rfl rfl rfl (.callp (record_May_pc false k a0 r1 h2) rfl ⟨(.agg' ⟨.v, .v, .v, .v, .v, .v, .v, .v, .v, trivial⟩), trivial⟩ rfl rfl rfl) ?_
  refine RunT.ot0 (x := .v (.bool (!r1))) rfl rfl rfl rfl (.un rfl (fun w => u_not w) rfl) ?_
  refine RunT.nil ?_
  refine T.cond2 (t := !r1) rfl (fun c3 => ?_) (fun c3 => ?_)
  · replace H := ct H c3
    refine T.seq ?_
    refine T.region ?_
    refine RunT.ot0 (x := .v (.slice none 0 0)) rfl rfl rfl rfl (.assignX rfl) ?_
    refine RunT.ot0 (x := .v (.int .i64 1)) rfl rfl rfl rfl (.assignX rfl) ?_
    refine RunT.nil ?_
    obtain rfl := si H
    refine T.sub (sub_to (st' := ⟨[(2, .own 0 0 0), (3, .v (.int .i64 1))], [(0, some (.arr false 1 (List.map eU8 [])))], 8, []⟩) [none] (by decide) rfl rfl (⟨⟨_, rfl, .one .nilO⟩, ⟨⟨_, rfl, .one .v⟩, trivial⟩⟩) (⟨⟨rfl, .inr ⟨rfl, false, _, rfl, (by decide)⟩⟩, trivial⟩)) ?_
    refine T.ret ?_
    exact RetOk.same [.own 0 0 0, .v (.int .i64 1)] ⟨rfl, rfl, trivial⟩ rfl rfl rfl
  · replace H := cf H c3
    refine T.skip ?_
    refine T.seq ?_
    refine T.region ?_
    refine RunT.ot0 (x := .ptr 0 0) rfl rfl rfl rfl (.fieldPX fl51_0 rfl rfl) ?_
    refine RunT.ot0 (x := .v (.int .i64 a0.Kind)) rfl rfl rfl rfl (.loadP ty3 rfl rfl rfl) ?_
    refine RunT.ot0 (x := .v (.int .u8 (IntKind.u8.wrap a0.Kind))) rfl rfl rfl rfl (.conv rfl (fun w => c_int w ⟨_, Try.underlying3⟩ Try.underlying5) rfl) ?_
    refine RunT.ot1 (x := .own 8 0 (([IntKind.u8.wrap a0.Kind]).length)) (p0 := (8, some (.arr false 1 (List.map eU8 [IntKind.u8.wrap a0.Kind])))) (n' := 16) rfl rfl rfl rfl (.bslicem (d := false) (l := [IntKind.u8.wrap a0.Kind]) (f := eU8) sl35 rfl rfl rfl enc_U8 rfl) rfl ?_
    refine RunT.ot0 (x := .own 8 0 (([IntKind.u8.wrap a0.Kind]).length)) rfl rfl rfl rfl (.assignX rfl) ?_
    refine RunT.nil ?_
    refine T.seq ?_
    refine T.seq ?_
    refine T.region ?_
    refine RunT.ot0 (x := .ptr 0 0) rfl rfl rfl rfl (.fieldPX fl51_0 rfl rfl) ?_
    refine RunT.ot0 (x := .v (.int .i64 a0.Kind)) rfl rfl rfl rfl (.loadP ty3 rfl rfl rfl) ?_
    refine RunT.nil ?_
    refine T.block ?_
    refine T.seq ?_
    refine T.block ?_
    refine T.block ?_
    refine T.seq ?_
    refine T.block ?_
    refine T.seq ?_
    refine T.block ?_
    refine T.seq ?_
    refine T.block ?_
    refine T.seq ?_
    refine T.seq ?_
    refine T.seq ?_
    refine T.region ?_
    refine RunT.ot0 (x := .v (.bool (decide (a0.Kind = 1)))) rfl rfl rfl rfl (.bin rfl rfl (fun w => b_eql w) rfl) ?_
    refine RunT.ot0 (x := .v (.bool (decide (a0.Kind = 1)))) rfl rfl rfl rfl (.assignX rfl) ?_
    refine RunT.nil ?_
    refine T.cond2 (t := decide (a0.Kind = 1)) rfl (fun c4 => ?_) (fun c4 => ?_)
    · replace H := ct H c4
      refine T.exit ?_
      refine T.seq ?_
      refine T.sub (sub_pick [1, 4] [0, 8] (st' := ⟨[(1, .ptr 0 0), (4, .own 8 0 (([IntKind.u8.wrap a0.Kind]).length))], [(0, some (.box [.v (.int .i64 a0.Kind), .v (.string a0.Text), .v (.int .i64 a0.Order.Id), .v (.int .i64 a0.Order.State), .v (.int .i64 a0.Order.Party.Size), .v (.int .i64 a0.Order.Party.Wheels), .v (.int .i64 a0.Order.Until), .v (.int .i64 a0.Order.First), .v (.int .i64 a0.Time)])), (8, some (.arr false 1 (List.map eU8 [IntKind.u8.wrap a0.Kind])))], 16, []⟩) rfl rfl rfl rfl rfl) ?_
      refine T.region ?_
      refine RunT.ot0 (x := .own 8 0 (([IntKind.u8.wrap a0.Kind]).length)) rfl rfl rfl rfl (.moveX rfl) ?_
      refine RunT.ot0 (x := .ptr 0 1) rfl rfl rfl rfl (.fieldPX fl51_1 rfl rfl) ?_
      refine RunT.ot0 (x := .v (.string a0.Text)) rfl rfl rfl rfl (.loadP ty9 rfl rfl rfl) ?_
      obtain ⟨h5, H⟩ := gs H
      refine RunT.ot2 (x := .own 16 0 (([IntKind.u8.wrap a0.Kind] ++ (bytesI a0.Text)).length)) (p0 := (16, some (.arr false 1 (List.map eU8 ([IntKind.u8.wrap a0.Kind] ++ (bytesI a0.Text)))))) (p1 := (8, none)) (n' := 24) rfl rfl rfl rfl (.appOn (d := false) (l := [IntKind.u8.wrap a0.Kind]) (m := bytesI a0.Text) (f := eU8) rfl sl35 rfl rfl rfl (.strm Try.underlying9 (fun _ => rfl)) rfl h5) rfl ?_
      refine RunT.ot0 (x := .own 16 0 (([IntKind.u8.wrap a0.Kind] ++ (bytesI a0.Text)).length)) rfl rfl rfl rfl (.assignX rfl) ?_
      refine RunT.nil ?_
      refine T.exit ?_
      refine T.seq ?_
      refine T.region ?_
      refine RunT.ot0 (x := .own 16 0 (([IntKind.u8.wrap a0.Kind] ++ (bytesI a0.Text)).length)) rfl rfl rfl rfl (.moveX rfl) ?_
      refine RunT.ot0 (x := .own 16 0 (([IntKind.u8.wrap a0.Kind] ++ (bytesI a0.Text)).length)) rfl rfl rfl rfl (.assignX rfl) ?_
      refine RunT.ot0 (x := .v (.int .i64 0)) rfl rfl rfl rfl (.assignX rfl) ?_
      refine RunT.nil ?_
      obtain rfl := si H
      refine T.sub (sub_to (st' := ⟨[(2, .own 0 0 ((List.map eU8 ([IntKind.u8.wrap a0.Kind] ++ (bytesI a0.Text))).length)), (3, .v (.int .i64 0))], [(0, some (.arr false 1 (List.map eU8 ([IntKind.u8.wrap a0.Kind] ++ (bytesI a0.Text)))))], 8, []⟩) [some 16] (by decide) rfl rfl (⟨⟨_, rfl, .one (.own' rfl (List.length_map _).symm)⟩, ⟨⟨_, rfl, .one .v⟩, trivial⟩⟩) (⟨⟨rfl, .inl ⟨_, _, rfl, rfl, .arr rfl⟩⟩, trivial⟩)) ?_
      refine T.ret ?_
      exact RetOk.same [.own 0 0 ((List.map eU8 ([IntKind.u8.wrap a0.Kind] ++ (bytesI a0.Text))).length), .v (.int .i64 0)] ⟨rfl, rfl, trivial⟩ rfl rfl rfl
    · replace H := cf H c4
      refine T.skip ?_
      refine T.seq ?_
      refine T.seq ?_
      refine T.region ?_
      refine RunT.ot0 (x := .v (.bool (decide (a0.Kind = 3)))) rfl rfl rfl rfl (.bin rfl rfl (fun w => b_eql w) rfl) ?_
      refine RunT.ot0 (x := .v (.bool (decide (a0.Kind = 3)))) rfl rfl rfl rfl (.assignX rfl) ?_
      refine RunT.nil ?_
      refine T.cond2 (t := decide (a0.Kind = 3)) rfl (fun c6 => ?_) (fun c6 => ?_)
      · replace H := ct H c6
        refine T.exit ?_
        refine T.seq ?_
        refine T.region ?_
        refine RunT.ot0 (x := .own 8 0 (([IntKind.u8.wrap a0.Kind]).length)) rfl rfl rfl rfl (.moveX rfl) ?_
        refine RunT.ot0 (x := .ptr 0 8) rfl rfl rfl rfl (.fieldPX fl51_3 rfl rfl) ?_
        refine RunT.ot0 (x := .v (.int .i64 a0.Time)) rfl rfl rfl rfl (.loadP ty2 rfl rfl rfl) ?_
        obtain ⟨r7, h8, H⟩ := bs H
        refine RunT.ot0 (x := .lst (List.map eU8 r7)) rfl rfl rfl rfl (.callp (PC.frozen (record_time_pc false k a0.Time r7 h8)) rfl ⟨(.one .v), trivial⟩ rfl rfl rfl) ?_
        obtain ⟨h9, H⟩ := gs H
        refine RunT.ot2 (x := .own 16 0 (([IntKind.u8.wrap a0.Kind] ++ r7).length)) (p0 := (16, some (.arr false 1 (List.map eU8 ([IntKind.u8.wrap a0.Kind] ++ r7))))) (p1 := (8, none)) (n' := 24) rfl rfl rfl rfl (.appOn (d := false) (l := [IntKind.u8.wrap a0.Kind]) (m := r7) (f := eU8) rfl sl35 rfl rfl rfl (.lstm Try.underlying35 enc_U8) rfl h9) rfl ?_
        refine RunT.ot0 (x := .own 16 0 (([IntKind.u8.wrap a0.Kind] ++ r7).length)) rfl rfl rfl rfl (.assignX rfl) ?_
        refine RunT.nil ?_
        refine T.exit ?_
        refine T.seq ?_
        refine T.sub (sub_pick [4] [16] (st' := ⟨[(4, .own 16 0 (([IntKind.u8.wrap a0.Kind] ++ r7).length))], [(16, some (.arr false 1 (List.map eU8 ([IntKind.u8.wrap a0.Kind] ++ r7))))], 24, []⟩) rfl rfl rfl rfl rfl) ?_
        refine T.region ?_
        refine RunT.ot0 (x := .own 16 0 (([IntKind.u8.wrap a0.Kind] ++ r7).length)) rfl rfl rfl rfl (.moveX rfl) ?_
        refine RunT.ot0 (x := .own 16 0 (([IntKind.u8.wrap a0.Kind] ++ r7).length)) rfl rfl rfl rfl (.assignX rfl) ?_
        refine RunT.ot0 (x := .v (.int .i64 0)) rfl rfl rfl rfl (.assignX rfl) ?_
        refine RunT.nil ?_
        obtain rfl := si H
        refine T.sub (sub_to (st' := ⟨[(2, .own 0 0 ((List.map eU8 ([IntKind.u8.wrap a0.Kind] ++ r7)).length)), (3, .v (.int .i64 0))], [(0, some (.arr false 1 (List.map eU8 ([IntKind.u8.wrap a0.Kind] ++ r7))))], 8, []⟩) [some 16] (by decide) rfl rfl (⟨⟨_, rfl, .one (.own' rfl (List.length_map _).symm)⟩, ⟨⟨_, rfl, .one .v⟩, trivial⟩⟩) (⟨⟨rfl, .inl ⟨_, _, rfl, rfl, .arr rfl⟩⟩, trivial⟩)) ?_
        refine T.ret ?_
        exact RetOk.same [.own 0 0 ((List.map eU8 ([IntKind.u8.wrap a0.Kind] ++ r7)).length), .v (.int .i64 0)] ⟨rfl, rfl, trivial⟩ rfl rfl rfl
      · replace H := cf H c6
        refine T.skip ?_
        refine T.seq ?_
        refine T.seq ?_
        refine T.region ?_
        refine RunT.ot0 (x := .v (.bool (decide (a0.Kind = 2)))) rfl rfl rfl rfl (.bin rfl rfl (fun w => b_eql w) rfl) ?_
        refine RunT.ot0 (x := .v (.bool (decide (a0.Kind = 2)))) rfl rfl rfl rfl (.assignX rfl) ?_
        refine RunT.nil ?_
        refine T.cond2 (t := decide (a0.Kind = 2)) rfl (fun c10 => ?_) (fun c10 => ?_)
        · replace H := ct H c10
          refine T.exit ?_
          refine T.seq ?_
          refine T.seq ?_
          refine T.region ?_
          refine RunT.ot0 (x := .ptr 0 2) rfl rfl rfl rfl (.fieldPX fl51_2 rfl rfl) ?_
          refine RunT.ot0 (x := .agg [.v (.int .i64 a0.Order.Id), .v (.int .i64 a0.Order.State), .v (.int .i64 a0.Order.Party.Size), .v (.int .i64 a0.Order.Party.Wheels), .v (.int .i64 a0.Order.Until), .v (.int .i64 a0.Order.First)]) rfl rfl rfl rfl (.loadP ty49 rfl rfl rfl) ?_
          refine RunT.ot1 (x := .ptr 16 0) (p0 := (16, some (.box [.v (.int .i64 0), .v (.int .i64 0), .v (.int .i64 0), .v (.int .i64 0), .v (.int .i64 0), .v (.int .i64 0)]))) (n' := 24) rfl rfl rfl rfl (.allocX in49.zero rfl rfl) rfl ?_
          refine RunT.on1 (x := .junk) (p0 := (16, some (.box [.v (.int .i64 a0.Order.Id), .v (.int .i64 a0.Order.State), .v (.int .i64 a0.Order.Party.Size), .v (.int .i64 a0.Order.Party.Wheels), .v (.int .i64 a0.Order.Until), .v (.int .i64 a0.Order.First)]))) (n' := 32) rfl rfl rfl (.storePX ty49 rfl rfl rfl rfl rfl rfl rfl) rfl ?_
          refine RunT.nil ?_
          refine T.seq ?_
          refine T.region ?_
          refine RunT.ot0 (x := .own 8 0 (([IntKind.u8.wrap a0.Kind]).length)) rfl rfl rfl rfl (.moveX rfl) ?_
          refine RunT.ot0 (x := .ptr 16 0) rfl rfl rfl rfl (.fieldPX fl49_0 rfl rfl) ?_
          refine RunT.ot0 (x := .v (.int .i64 a0.Order.Id)) rfl rfl rfl rfl (.loadP ty3 rfl rfl rfl) ?_
          refine RunT.ot0 (x := .v (.int .u32 (IntKind.u32.wrap a0.Order.Id))) rfl rfl rfl rfl (.conv rfl (fun w => c_int w ⟨_, Try.underlying3⟩ Try.underlying68) rfl) ?_
          obtain ⟨r11, h12, H⟩ := bs H
          refine RunT.ot0 (x := .lst (List.map eU8 r11)) rfl rfl rfl rfl (.callp (PC.frozen (sum_Put_pc false k (IntKind.u32.wrap a0.Order.Id) r11 h12)) rfl ⟨(.one .v), trivial⟩ rfl rfl rfl) ?_
          obtain ⟨h13, H⟩ := gs H
          refine RunT.ot2 (x := .own 32 0 (([IntKind.u8.wrap a0.Kind] ++ r11).length)) (p0 := (32, some (.arr false 1 (List.map eU8 ([IntKind.u8.wrap a0.Kind] ++ r11))))) (p1 := (8, none)) (n' := 40) rfl rfl rfl rfl (.appOn (d := false) (l := [IntKind.u8.wrap a0.Kind]) (m := r11) (f := eU8) rfl sl35 rfl rfl rfl (.lstm Try.underlying35 enc_U8) rfl h13) rfl ?_
          refine RunT.ot0 (x := .own 32 0 (([IntKind.u8.wrap a0.Kind] ++ r11).length)) rfl rfl rfl rfl (.assignX rfl) ?_
          refine RunT.nil ?_
          refine T.seq ?_
          refine T.sub (sub_pick [4, 5] [16, 32] (st' := ⟨[(4, .own 32 0 (([IntKind.u8.wrap a0.Kind] ++ r11).length)), (5, .ptr 16 0)], [(16, some (.box [.v (.int .i64 a0.Order.Id), .v (.int .i64 a0.Order.State), .v (.int .i64 a0.Order.Party.Size), .v (.int .i64 a0.Order.Party.Wheels), .v (.int .i64 a0.Order.Until), .v (.int .i64 a0.Order.First)])), (32, some (.arr false 1 (List.map eU8 ([IntKind.u8.wrap a0.Kind] ++ r11))))], 40, []⟩) rfl rfl rfl rfl rfl) ?_
          refine T.region ?_
          refine RunT.ot0 (x := .own 32 0 (([IntKind.u8.wrap a0.Kind] ++ r11).length)) rfl rfl rfl rfl (.moveX rfl) ?_
          refine RunT.ot0 (x := .ptr 16 1) rfl rfl rfl rfl (.fieldPX fl49_1 rfl rfl) ?_
          refine RunT.ot0 (x := .v (.int .i64 a0.Order.State)) rfl rfl rfl rfl (.loadP ty3 rfl rfl rfl) ?_
          refine RunT.ot0 (x := .v (.int .u8 (IntKind.u8.wrap a0.Order.State))) rfl rfl rfl rfl (.conv rfl (fun w => c_int w ⟨_, Try.underlying3⟩ Try.underlying5) rfl) ?_
          refine RunT.ot0 (x := .ptr 16 2) rfl rfl rfl rfl (.fieldPX fl49_2 rfl rfl) ?_
          refine RunT.ot0 (x := .ptr 16 2) rfl rfl rfl rfl (.fieldPX fl23_0 rfl rfl) ?_
          refine RunT.ot0 (x := .v (.int .i64 a0.Order.Party.Size)) rfl rfl rfl rfl (.loadP ty3 rfl rfl rfl) ?_
          refine RunT.ot0 (x := .v (.int .u8 (IntKind.u8.wrap a0.Order.Party.Size))) rfl rfl rfl rfl (.conv rfl (fun w => c_int w ⟨_, Try.underlying3⟩ Try.underlying5) rfl) ?_
          refine RunT.ot0 (x := .ptr 16 2) rfl rfl rfl rfl (.fieldPX fl49_2 rfl rfl) ?_
          refine RunT.ot0 (x := .ptr 16 3) rfl rfl rfl rfl (.fieldPX fl23_1 rfl rfl) ?_
          refine RunT.ot0 (x := .v (.int .i64 a0.Order.Party.Wheels)) rfl rfl rfl rfl (.loadP ty3 rfl rfl rfl) ?_
          refine RunT.ot0 (x := .v (.int .u8 (IntKind.u8.wrap a0.Order.Party.Wheels))) rfl rfl rfl rfl (.conv rfl (fun w => c_int w ⟨_, Try.underlying3⟩ Try.underlying5) rfl) ?_
          refine RunT.ot1 (x := .own 40 0 (([IntKind.u8.wrap a0.Order.State, IntKind.u8.wrap a0.Order.Party.Size, IntKind.u8.wrap a0.Order.Party.Wheels]).length)) (p0 := (40, some (.arr false 1 (List.map eU8 [IntKind.u8.wrap a0.Order.State, IntKind.u8.wrap a0.Order.Party.Size, IntKind.u8.wrap a0.Order.Party.Wheels])))) (n' := 48) rfl rfl rfl rfl (.bslicem (d := false) (l := [IntKind.u8.wrap a0.Order.State, IntKind.u8.wrap a0.Order.Party.Size, IntKind.u8.wrap a0.Order.Party.Wheels]) (f := eU8) sl35 rfl rfl rfl enc_U8 rfl) rfl ?_
          obtain ⟨h14, H⟩ := gs H
          refine RunT.ot2 (x := .own 48 0 ((([IntKind.u8.wrap a0.Kind] ++ r11) ++ [IntKind.u8.wrap a0.Order.State, IntKind.u8.wrap a0.Order.Party.Size, IntKind.u8.wrap a0.Order.Party.Wheels]).length)) (p0 := (48, some (.arr false 1 (List.map eU8 (([IntKind.u8.wrap a0.Kind] ++ r11) ++ [IntKind.u8.wrap a0.Order.State, IntKind.u8.wrap a0.Order.Party.Size, IntKind.u8.wrap a0.Order.Party.Wheels]))))) (p1 := (32, none)) (n' := 56) rfl rfl rfl rfl (.appOn (d := false) (l := [IntKind.u8.wrap a0.Kind] ++ r11) (m := [IntKind.u8.wrap a0.Order.State, IntKind.u8.wrap a0.Order.Party.Size, IntKind.u8.wrap a0.Order.Party.Wheels]) (f := eU8) rfl sl35 rfl rfl rfl (.ownn Try.underlying35 rfl rfl (fun h => by cases h)) rfl h14) rfl ?_
          refine RunT.ot0 (x := .own 48 0 ((([IntKind.u8.wrap a0.Kind] ++ r11) ++ [IntKind.u8.wrap a0.Order.State, IntKind.u8.wrap a0.Order.Party.Size, IntKind.u8.wrap a0.Order.Party.Wheels]).length)) rfl rfl rfl rfl (.assignX rfl) ?_
          refine RunT.nil ?_
          refine T.seq ?_
          refine T.region ?_
          refine RunT.ot0 (x := .own 48 0 ((([IntKind.u8.wrap a0.Kind] ++ r11) ++ [IntKind.u8.wrap a0.Order.State, IntKind.u8.wrap a0.Order.Party.Size, IntKind.u8.wrap a0.Order.Party.Wheels]).length)) rfl rfl rfl rfl (.moveX rfl) ?_
          refine RunT.ot0 (x := .ptr 16 4) rfl rfl rfl rfl (.fieldPX fl49_3 rfl rfl) ?_
          refine RunT.ot0 (x := .v (.int .i64 a0.Order.Until)) rfl rfl rfl rfl (.loadP ty2 rfl rfl rfl) ?_
          obtain ⟨r15, h16, H⟩ := bs H
          refine RunT.ot0 (x := .lst (List.map eU8 r15)) rfl rfl rfl rfl (.callp (PC.frozen (record_time_pc false k a0.Order.Until r15 h16)) rfl ⟨(.one .v), trivial⟩ rfl rfl rfl) ?_
          obtain ⟨h17, H⟩ := gs H
          refine RunT.ot2 (x := .own 56 0 (((([IntKind.u8.wrap a0.Kind] ++ r11) ++ [IntKind.u8.wrap a0.Order.State, IntKind.u8.wrap a0.Order.Party.Size, IntKind.u8.wrap a0.Order.Party.Wheels]) ++ r15).length)) (p0 := (56, some (.arr false 1 (List.map eU8 ((([IntKind.u8.wrap a0.Kind] ++ r11) ++ [IntKind.u8.wrap a0.Order.State, IntKind.u8.wrap a0.Order.Party.Size, IntKind.u8.wrap a0.Order.Party.Wheels]) ++ r15))))) (p1 := (48, none)) (n' := 64) rfl rfl rfl rfl (.appOn (d := false) (l := ([IntKind.u8.wrap a0.Kind] ++ r11) ++ [IntKind.u8.wrap a0.Order.State, IntKind.u8.wrap a0.Order.Party.Size, IntKind.u8.wrap a0.Order.Party.Wheels]) (m := r15) (f := eU8) rfl sl35 rfl rfl rfl (.lstm Try.underlying35 enc_U8) rfl h17) rfl ?_
          refine RunT.ot0 (x := .own 56 0 (((([IntKind.u8.wrap a0.Kind] ++ r11) ++ [IntKind.u8.wrap a0.Order.State, IntKind.u8.wrap a0.Order.Party.Size, IntKind.u8.wrap a0.Order.Party.Wheels]) ++ r15).length)) rfl rfl rfl rfl (.assignX rfl) ?_
          refine RunT.nil ?_
          refine T.sub (sub_pick [4, 5] [16, 56] (st' := ⟨[(4, .own 56 0 (((([IntKind.u8.wrap a0.Kind] ++ r11) ++ [IntKind.u8.wrap a0.Order.State, IntKind.u8.wrap a0.Order.Party.Size, IntKind.u8.wrap a0.Order.Party.Wheels]) ++ r15).length)), (5, .ptr 16 0)], [(16, some (.box [.v (.int .i64 a0.Order.Id), .v (.int .i64 a0.Order.State), .v (.int .i64 a0.Order.Party.Size), .v (.int .i64 a0.Order.Party.Wheels), .v (.int .i64 a0.Order.Until), .v (.int .i64 a0.Order.First)])), (56, some (.arr false 1 (List.map eU8 ((([IntKind.u8.wrap a0.Kind] ++ r11) ++ [IntKind.u8.wrap a0.Order.State, IntKind.u8.wrap a0.Order.Party.Size, IntKind.u8.wrap a0.Order.Party.Wheels]) ++ r15))))], 64, []⟩) rfl rfl rfl rfl rfl) ?_
          refine T.region ?_
          refine RunT.ot0 (x := .own 56 0 (((([IntKind.u8.wrap a0.Kind] ++ r11) ++ [IntKind.u8.wrap a0.Order.State, IntKind.u8.wrap a0.Order.Party.Size, IntKind.u8.wrap a0.Order.Party.Wheels]) ++ r15).length)) rfl rfl rfl rfl (.moveX rfl) ?_
          refine RunT.ot0 (x := .ptr 16 5) rfl rfl rfl rfl (.fieldPX fl49_4 rfl rfl) ?_
          refine RunT.ot0 (x := .v (.int .i64 a0.Order.First)) rfl rfl rfl rfl (.loadP ty3 rfl rfl rfl) ?_
          refine RunT.ot0 (x := .v (.int .i64 (wr (a0.Order.First + 1)))) rfl rfl rfl rfl (.bin rfl rfl (fun w => b_addw w) rfl) ?_
          refine RunT.ot0 (x := .v (.int .u32 (IntKind.u32.wrap (wr (a0.Order.First + 1))))) rfl rfl rfl rfl (.conv rfl (fun w => c_int w ⟨_, Try.underlying3⟩ Try.underlying68) rfl) ?_
          obtain ⟨r18, h19, H⟩ := bs H
          refine RunT.ot0 (x := .lst (List.map eU8 r18)) rfl rfl rfl rfl (.callp (PC.frozen (sum_Put_pc false k (IntKind.u32.wrap (wr (a0.Order.First + 1))) r18 h19)) rfl ⟨(.one .v), trivial⟩ rfl rfl rfl) ?_
          obtain ⟨h20, H⟩ := gs H
          refine RunT.ot2 (x := .own 64 0 ((((([IntKind.u8.wrap a0.Kind] ++ r11) ++ [IntKind.u8.wrap a0.Order.State, IntKind.u8.wrap a0.Order.Party.Size, IntKind.u8.wrap a0.Order.Party.Wheels]) ++ r15) ++ r18).length)) (p0 := (64, some (.arr false 1 (List.map eU8 (((([IntKind.u8.wrap a0.Kind] ++ r11) ++ [IntKind.u8.wrap a0.Order.State, IntKind.u8.wrap a0.Order.Party.Size, IntKind.u8.wrap a0.Order.Party.Wheels]) ++ r15) ++ r18))))) (p1 := (56, none)) (n' := 72) rfl rfl rfl rfl (.appOn (d := false) (l := (([IntKind.u8.wrap a0.Kind] ++ r11) ++ [IntKind.u8.wrap a0.Order.State, IntKind.u8.wrap a0.Order.Party.Size, IntKind.u8.wrap a0.Order.Party.Wheels]) ++ r15) (m := r18) (f := eU8) rfl sl35 rfl rfl rfl (.lstm Try.underlying35 enc_U8) rfl h20) rfl ?_
          refine RunT.ot0 (x := .own 64 0 ((((([IntKind.u8.wrap a0.Kind] ++ r11) ++ [IntKind.u8.wrap a0.Order.State, IntKind.u8.wrap a0.Order.Party.Size, IntKind.u8.wrap a0.Order.Party.Wheels]) ++ r15) ++ r18).length)) rfl rfl rfl rfl (.assignX rfl) ?_
          refine RunT.nil ?_
          refine T.exit ?_
          refine T.seq ?_
          refine T.region ?_
          refine RunT.ot0 (x := .own 64 0 ((((([IntKind.u8.wrap a0.Kind] ++ r11) ++ [IntKind.u8.wrap a0.Order.State, IntKind.u8.wrap a0.Order.Party.Size, IntKind.u8.wrap a0.Order.Party.Wheels]) ++ r15) ++ r18).length)) rfl rfl rfl rfl (.moveX rfl) ?_
          refine RunT.ot0 (x := .own 64 0 ((((([IntKind.u8.wrap a0.Kind] ++ r11) ++ [IntKind.u8.wrap a0.Order.State, IntKind.u8.wrap a0.Order.Party.Size, IntKind.u8.wrap a0.Order.Party.Wheels]) ++ r15) ++ r18).length)) rfl rfl rfl rfl (.assignX rfl) ?_
          refine RunT.ot0 (x := .v (.int .i64 0)) rfl rfl rfl rfl (.assignX rfl) ?_
          refine RunT.nil ?_
          obtain rfl := si H
          refine T.sub (sub_to (st' := ⟨[(2, .own 0 0 ((List.map eU8 (((([IntKind.u8.wrap a0.Kind] ++ r11) ++ [IntKind.u8.wrap a0.Order.State, IntKind.u8.wrap a0.Order.Party.Size, IntKind.u8.wrap a0.Order.Party.Wheels]) ++ r15) ++ r18)).length)), (3, .v (.int .i64 0))], [(0, some (.arr false 1 (List.map eU8 (((([IntKind.u8.wrap a0.Kind] ++ r11) ++ [IntKind.u8.wrap a0.Order.State, IntKind.u8.wrap a0.Order.Party.Size, IntKind.u8.wrap a0.Order.Party.Wheels]) ++ r15) ++ r18))))], 8, []⟩) [some 64] (by decide) rfl rfl (⟨⟨_, rfl, .one (.own' rfl (List.length_map _).symm)⟩, ⟨⟨_, rfl, .one .v⟩, trivial⟩⟩) (⟨⟨rfl, .inl ⟨_, _, rfl, rfl, .arr rfl⟩⟩, trivial⟩)) ?_
          refine T.ret ?_
          exact RetOk.same [.own 0 0 ((List.map eU8 (((([IntKind.u8.wrap a0.Kind] ++ r11) ++ [IntKind.u8.wrap a0.Order.State, IntKind.u8.wrap a0.Order.Party.Size, IntKind.u8.wrap a0.Order.Party.Wheels]) ++ r15) ++ r18)).length), .v (.int .i64 0)] ⟨rfl, rfl, trivial⟩ rfl rfl rfl
        · replace H := cf H c10
          refine T.skip ?_
          refine T.seq ?_
          refine T.region ?_
          refine RunT.ot0 (x := .v (.bool (decide (a0.Kind = 4)))) rfl rfl rfl rfl (.bin rfl rfl (fun w => b_eql w) rfl) ?_
          refine RunT.ot0 (x := .v (.bool (decide (a0.Kind = 4)))) rfl rfl rfl rfl (.assignX rfl) ?_
          refine RunT.nil ?_
          refine T.cond2 (t := decide (a0.Kind = 4)) rfl (fun c21 => ?_) (fun c21 => ?_)
          · replace H := ct H c21
            refine T.exit ?_
            refine T.exit ?_
            refine T.seq ?_
            refine T.region ?_
            refine RunT.ot0 (x := .own 8 0 (([IntKind.u8.wrap a0.Kind]).length)) rfl rfl rfl rfl (.moveX rfl) ?_
            refine RunT.ot0 (x := .own 8 0 (([IntKind.u8.wrap a0.Kind]).length)) rfl rfl rfl rfl (.assignX rfl) ?_
            refine RunT.ot0 (x := .v (.int .i64 0)) rfl rfl rfl rfl (.assignX rfl) ?_
            refine RunT.nil ?_
            obtain rfl := si H
            refine T.sub (sub_to (st' := ⟨[(2, .own 0 0 ((List.map eU8 [IntKind.u8.wrap a0.Kind]).length)), (3, .v (.int .i64 0))], [(0, some (.arr false 1 (List.map eU8 [IntKind.u8.wrap a0.Kind])))], 8, []⟩) [some 8] (by decide) rfl rfl (⟨⟨_, rfl, .one (.own' rfl (List.length_map _).symm)⟩, ⟨⟨_, rfl, .one .v⟩, trivial⟩⟩) (⟨⟨rfl, .inl ⟨_, _, rfl, rfl, .arr rfl⟩⟩, trivial⟩)) ?_
            refine T.ret ?_
            exact RetOk.same [.own 0 0 ((List.map eU8 [IntKind.u8.wrap a0.Kind]).length), .v (.int .i64 0)] ⟨rfl, rfl, trivial⟩ rfl rfl rfl
          · replace H := cf H c21
            refine T.skip ?_
            refine T.exit ?_
            refine T.exit ?_
            refine T.seq ?_
            refine T.sub (sub_pick [4] [8] (st' := ⟨[(4, .own 8 0 (([IntKind.u8.wrap a0.Kind]).length))], [(8, some (.arr false 1 (List.map eU8 [IntKind.u8.wrap a0.Kind])))], 16, []⟩) rfl rfl rfl rfl rfl) ?_
            refine T.region ?_
            refine RunT.ot0 (x := .own 8 0 (([IntKind.u8.wrap a0.Kind]).length)) rfl rfl rfl rfl (.moveX rfl) ?_
            refine RunT.ot0 (x := .own 8 0 (([IntKind.u8.wrap a0.Kind]).length)) rfl rfl rfl rfl (.assignX rfl) ?_
            refine RunT.ot0 (x := .v (.int .i64 0)) rfl rfl rfl rfl (.assignX rfl) ?_
            refine RunT.nil ?_
            obtain rfl := si H
            refine T.sub (sub_to (st' := ⟨[(2, .own 0 0 ((List.map eU8 [IntKind.u8.wrap a0.Kind]).length)), (3, .v (.int .i64 0))], [(0, some (.arr false 1 (List.map eU8 [IntKind.u8.wrap a0.Kind])))], 8, []⟩) [some 8] (by decide) rfl rfl (⟨⟨_, rfl, .one (.own' rfl (List.length_map _).symm)⟩, ⟨⟨_, rfl, .one .v⟩, trivial⟩⟩) (⟨⟨rfl, .inl ⟨_, _, rfl, rfl, .arr rfl⟩⟩, trivial⟩)) ?_
            refine T.ret ?_
            exact RetOk.same [.own 0 0 ((List.map eU8 [IntKind.u8.wrap a0.Kind]).length), .v (.int .i64 0)] ⟨rfl, rfl, trivial⟩ rfl rfl rfl
set_option maxHeartbeats 4000000 in
theorem bytes_Equal_pc (al : Bool) (k : Nat) (a0 : (List Int)) (a1 : (List Int)) (o : Bool) (H : bytes_Equal k a0 a1 = some o) : PC Try.prog al 43 [.lst (List.map eU8 a0), .lst (List.map eU8 a1)] (.v (.bool o)) := by
  unfold bytes_Equal at H
  refine PC.of_T Try.func43 rfl rfl (n := 10) rfl rfl (.inr rfl) ?_
  intro base B w0
  refine T.st (st' := ⟨[(0, .lst (List.map eU8 a0)), (1, .lst (List.map eU8 a1))], [], 0, []⟩) rfl ?_
  refine T.seq ?_
  refine T.region ?_
  refine RunT.ot0 (x := .v (.bool false)) rfl rfl rfl rfl (.assignX rfl) ?_
  refine RunT.nil ?_
  refine T.seq ?_
  refine T.region ?_
  refine RunT.ot0 (x := .lst (List.map eU8 a0)) rfl rfl rfl rfl (.moveX rfl) ?_
  refine RunT.ot0 (x := .v (.string (strOf a0))) rfl rfl rfl rfl (.toStrm (d := false) (m := a0) (f := eU8) Try.underlying35 Try.underlying5 Try.underlying9 rfl (.lstm Try.underlying35 enc_U8) (fun _ => rfl)) ?_
  refine RunT.ot0 (x := .lst (List.map eU8 a1)) rfl rfl rfl rfl (.moveX rfl) ?_
  refine RunT.ot0 (x := .v (.string (strOf a1))) rfl rfl rfl rfl (.toStrm (d := false) (m := a1) (f := eU8) Try.underlying35 Try.underlying5 Try.underlying9 rfl (.lstm Try.underlying35 enc_U8) (fun _ => rfl)) ?_
  refine RunT.ot0 (x := .v (.bool ((strOf a0) == (strOf a1)))) rfl rfl rfl rfl (.bin rfl rfl (fun w => eqStr w) rfl) ?_
  refine RunT.ot0 (x := .v (.bool ((strOf a0) == (strOf a1)))) rfl rfl rfl rfl (.assignX rfl) ?_
  refine RunT.nil ?_
  obtain rfl := si H
  refine T.sub (sub_to (st' := ⟨[(4, .v (.bool ((strOf a0) == (strOf a1))))], [], 8, []⟩) [] (by decide) rfl rfl (⟨⟨_, rfl, .one .v⟩, trivial⟩) (trivial)) ?_
  refine T.ret ?_
  exact RetOk.same [.v (.bool ((strOf a0) == (strOf a1)))] ⟨rfl, trivial⟩ rfl rfl rfl
set_option maxHeartbeats 4000000 in
theorem sum_Get_pc (al : Bool) (k : Nat) (a0 : (List Int)) (a1 : Int) (o : Int × Int) (H : sum_Get k a0 a1 = some o) : PC Try.prog al 50 [.lst (List.map eU8 a0), .v (.int .i64 a1)] (.tup [.v (.int .u32 o.1), .v (.int .i64 o.2)]) := by
  unfold sum_Get at H
  refine PC.of_T Try.func50 rfl rfl (n := 35) rfl rfl (.inr (flatT_tup ⟨rfl, rfl, trivial⟩)) ?_
  intro base B w0
  refine T.st (st' := ⟨[(0, .lst (List.map eU8 a0)), (1, .v (.int .i64 a1))], [], 0, []⟩) rfl ?_
  refine T.seq ?_
  refine T.region ?_
  refine RunT.ot0 (x := .v (.int .u32 0)) rfl rfl rfl rfl (.assignX rfl) ?_
  refine RunT.ot0 (x := .v (.int .i64 0)) rfl rfl rfl rfl (.assignX rfl) ?_
  refine RunT.nil ?_
  refine T.seq ?_
  obtain ⟨o2, E3, HO4⟩ := bs H
  refine T.cut (⟨[(0, .lst (List.map eU8 a0)), (1, .v (.int .i64 a1)), (16, .v (.bool o2))], [], 8, []⟩) ?_ ?_
  · have H := E3
    refine T.region ?_
    refine RunT.ot0 (x := .v (.int .i64 a1)) rfl rfl rfl rfl (.moveX rfl) ?_
    refine RunT.ot0 (x := .v (.bool (decide (a1 < 0)))) rfl rfl rfl rfl (.bin rfl rfl (fun w => b_lss w) rfl) ?_
    refine RunT.ot0 (x := .v (.bool (decide (a1 < 0)))) rfl rfl rfl rfl (.moveX rfl) ?_
    refine RunT.cases (t := 10) (c := decide (a1 < 0)) rfl (fun g5 => ?_) (fun g5 => ?_)
    · replace H := ct H g5
      refine RunT.xn rfl rfl rfl (bo g5) rfl rfl ?_
      refine RunT.xn rfl rfl rfl (bo g5) rfl rfl ?_
      refine RunT.xn rfl rfl rfl (bo g5) rfl rfl ?_
      refine RunT.xn rfl rfl rfl (bo g5) rfl rfl ?_
      refine RunT.xn rfl rfl rfl (bo g5) rfl rfl ?_
      refine RunT.ot0 (x := .v (.bool true)) rfl rfl rfl rfl (.pickT (bo g5) rfl) ?_
      refine RunT.nil ?_
      obtain rfl := si H
      exact (sub_to [] (by decide) rfl rfl (⟨⟨_, rfl, .one .lst⟩, ⟨⟨_, rfl, .one .v⟩, ⟨⟨_, rfl, .one .v⟩, trivial⟩⟩⟩) (trivial))
    · replace H := cf H g5
      refine RunT.gt0 (x := .v (.int .i64 a1)) rfl rfl rfl (bo g5) rfl rfl (.moveX rfl) ?_
      refine RunT.gt0 (x := .lst (List.map eU8 a0)) rfl rfl rfl (bo g5) rfl rfl (.moveX rfl) ?_
      refine RunT.gt0 (x := .v (.int .i64 (a0.length : Int))) rfl rfl rfl (bo g5) rfl rfl (.lenLm Try.underlying35 rfl rfl) ?_
      refine RunT.gt0 (x := .v (.int .i64 (wr ((a0.length : Int) - 4)))) rfl rfl rfl (bo g5) rfl rfl (.bin rfl rfl (fun w => b_subw w) rfl) ?_
      refine RunT.gt0 (x := .v (.bool (decide ((wr ((a0.length : Int) - 4)) < a1)))) rfl rfl rfl (bo g5) rfl rfl (.bin rfl rfl (fun w => b_gtr w) rfl) ?_
      refine RunT.ot0 (x := .v (.bool (decide ((wr ((a0.length : Int) - 4)) < a1)))) rfl rfl rfl rfl (.pickF (bo g5) rfl) ?_
      refine RunT.nil ?_
      obtain rfl := si H
      exact (sub_to [] (by decide) rfl rfl (⟨⟨_, rfl, .one .lst⟩, ⟨⟨_, rfl, .one .v⟩, ⟨⟨_, rfl, .one .v⟩, trivial⟩⟩⟩) (trivial))
  · have H := HO4
    refine T.cond2 (t := o2) rfl (fun c6 => ?_) (fun c6 => ?_)
    · replace H := ct H c6
      refine T.seq ?_
      refine T.sub (sub_pick [] [] (st' := ⟨[], [], 8, []⟩) rfl rfl rfl rfl rfl) ?_
      refine T.region ?_
      refine RunT.ot0 (x := .v (.int .u32 0)) rfl rfl rfl rfl (.assignX rfl) ?_
      refine RunT.ot0 (x := .v (.int .i64 10)) rfl rfl rfl rfl (.assignX rfl) ?_
      refine RunT.nil ?_
      obtain rfl := si H
      refine T.sub (sub_to (st' := ⟨[(4, .v (.int .u32 0)), (5, .v (.int .i64 10))], [], 8, []⟩) [] (by decide) rfl rfl (⟨⟨_, rfl, .one .v⟩, ⟨⟨_, rfl, .one .v⟩, trivial⟩⟩) (trivial)) ?_
      refine T.ret ?_
      exact RetOk.same [.v (.int .u32 0), .v (.int .i64 10)] ⟨rfl, rfl, trivial⟩ rfl rfl rfl
    · replace H := cf H c6
      refine T.skip ?_
      refine T.seq ?_
      refine T.region ?_
      refine RunT.ot0 (x := .v (.int .u32 0)) rfl rfl rfl rfl (.assignX rfl) ?_
      refine RunT.nil ?_
      refine T.seq ?_
      refine T.seq ?_
      refine T.region ?_
      refine RunT.ot0 (x := .v (.int .i64 0)) rfl rfl rfl rfl (.moveX rfl) ?_
      refine RunT.nil ?_
      obtain ⟨o17, E18, HO19⟩ := bs H
      refine T.cutE (⟨[(6, .v (.int .u32 o17))], [], 8, []⟩) ?_ ?_
      · have H := E18
        refine T.block ?_
        refine T.loopS (fun n s => ∃ (v20 : Int) (v21 : Int), sum_Get_l0 k a0 a1 n v20 v21 = some o17 ∧ s = ⟨[(0, .lst (List.map eU8 a0)), (1, .v (.int .i64 a1)), (6, .v (.int .u32 v20)), (17, .v (.int .i64 v21))], [], 8, []⟩) k ⟨_, ⟨0, 0, H, rfl⟩, sub_to [] (by decide) rfl rfl (⟨⟨_, rfl, .one .lst⟩, ⟨⟨_, rfl, .one .v⟩, ⟨⟨_, rfl, .one .v⟩, ⟨⟨_, rfl, .one .v⟩, trivial⟩⟩⟩⟩) (trivial)⟩ ?_
        rintro n s ⟨v20, v21, H, rfl⟩
        rcases n with _ | n
        · cases (show none = some _ from H)
        rw [sum_Get_l0] at H
        refine T.seq ?_
        refine T.region ?_
        refine RunT.ot0 (x := .v (.bool (decide (v21 < 4)))) rfl rfl rfl rfl (.bin rfl rfl (fun w => b_lss w) rfl) ?_
        refine RunT.nil ?_
        refine T.seq ?_
        refine T.cond2 (t := decide (v21 < 4)) rfl (fun c22 => ?_) (fun c22 => ?_)
        · replace H := ct H c22
          refine T.skip ?_
          refine T.seq ?_
          refine T.block ?_
          refine T.seq ?_
          refine T.region ?_
          refine RunT.ot0 (x := .v (.int .i64 v21)) rfl rfl rfl rfl (.moveX rfl) ?_
          refine RunT.ot0 (x := .v (.int .i64 v21)) rfl rfl rfl rfl (.assignX rfl) ?_
          refine RunT.nil ?_
          refine T.region ?_
          refine RunT.ot0 (x := .v (.int .u32 v20)) rfl rfl rfl rfl (.moveX rfl) ?_
          refine RunT.ot0 (x := .lst (List.map eU8 a0)) rfl rfl rfl rfl (.moveX rfl) ?_
          refine RunT.ot0 (x := .v (.int .i64 a1)) rfl rfl rfl rfl (.moveX rfl) ?_
          refine RunT.ot0 (x := .v (.int .i64 v21)) rfl rfl rfl rfl (.moveX rfl) ?_
          refine RunT.ot0 (x := .v (.int .i64 (wr (a1 + v21)))) rfl rfl rfl rfl (.bin rfl rfl (fun w => b_addw w) rfl) ?_
          obtain ⟨y23, h24, H⟩ := bs H
          refine RunT.ot0 (x := .rptr [.v (.int .u8 y23)]) rfl rfl rfl rfl (.idxLX h24 enc_U8 sl35 rfl rfl rfl) ?_
          refine RunT.ot0 (x := .v (.int .u8 y23)) rfl rfl rfl rfl (.loadR ty5 rfl rfl) ?_
          refine RunT.ot0 (x := .v (.int .u32 (IntKind.u32.wrap y23))) rfl rfl rfl rfl (.conv rfl (fun w => c_int w ⟨_, Try.underlying5⟩ Try.underlying68) rfl) ?_
          refine RunT.ot0 (x := .v (.int .i64 v21)) rfl rfl rfl rfl (.moveX rfl) ?_
          refine RunT.ot0 (x := .v (.int .i64 (wr (8 * v21)))) rfl rfl rfl rfl (.bin rfl rfl (fun w => b_mulw w) rfl) ?_
          refine RunT.ot0 (x := .v (.int .u64 (IntKind.u64.wrap (wr (8 * v21))))) rfl rfl rfl rfl (.conv rfl (fun w => c_int w ⟨_, Try.underlying3⟩ Try.underlying31) rfl) ?_
          obtain ⟨h25, H⟩ := gs H
          refine RunT.ot0 (x := .v (.int .u32 (IntKind.u32.wrap ((IntKind.u32.wrap y23) * 2 ^ (min (IntKind.u64.wrap (wr (8 * v21))).toNat IntKind.u32.bits))))) rfl rfl rfl rfl (.bin rfl rfl (fun w => b_shl w (of_decide_eq_true h25)) rfl) ?_
          refine RunT.ot0 (x := .v (.int .u32 (IntKind.u32.wrap (((BitVec.ofInt IntKind.u32.bits v20 ||| BitVec.ofInt IntKind.u32.bits (IntKind.u32.wrap ((IntKind.u32.wrap y23) * 2 ^ (min (IntKind.u64.wrap (wr (8 * v21))).toNat IntKind.u32.bits)))).toNat : Nat) : Int)))) rfl rfl rfl rfl (.bin rfl rfl (fun w => b_or' w rfl) rfl) ?_
          refine RunT.ot0 (x := .v (.int .u32 (IntKind.u32.wrap (((BitVec.ofInt IntKind.u32.bits v20 ||| BitVec.ofInt IntKind.u32.bits (IntKind.u32.wrap ((IntKind.u32.wrap y23) * 2 ^ (min (IntKind.u64.wrap (wr (8 * v21))).toNat IntKind.u32.bits)))).toNat : Nat) : Int)))) rfl rfl rfl rfl (.assignX rfl) ?_
          refine RunT.nil ?_
          refine T.sub (sub_pick [0, 1, 6, 17] [] (st' := ⟨[(0, .lst (List.map eU8 a0)), (1, .v (.int .i64 a1)), (6, .v (.int .u32 (IntKind.u32.wrap (((BitVec.ofInt IntKind.u32.bits v20 ||| BitVec.ofInt IntKind.u32.bits (IntKind.u32.wrap ((IntKind.u32.wrap y23) * 2 ^ (min (IntKind.u64.wrap (wr (8 * v21))).toNat IntKind.u32.bits)))).toNat : Nat) : Int)))), (17, .v (.int .i64 v21))], [], 8, []⟩) rfl rfl rfl rfl rfl) ?_
          refine T.region ?_
          refine RunT.ot0 (x := .v (.int .i64 (wr (v21 + 1)))) rfl rfl rfl rfl (.bin rfl rfl (fun w => b_addw w) rfl) ?_
          refine RunT.ot0 (x := .v (.int .i64 (wr (v21 + 1)))) rfl rfl rfl rfl (.moveX rfl) ?_
          refine RunT.nil ?_
          exact ⟨n, Nat.lt_succ_self n, _, ⟨IntKind.u32.wrap (((BitVec.ofInt IntKind.u32.bits v20 ||| BitVec.ofInt IntKind.u32.bits (IntKind.u32.wrap ((IntKind.u32.wrap y23) * 2 ^ (min (IntKind.u64.wrap (wr (8 * v21))).toNat IntKind.u32.bits)))).toNat : Nat) : Int), wr (v21 + 1), H, rfl⟩, (sub_to [] (by decide) rfl rfl (⟨⟨_, rfl, .one .lst⟩, ⟨⟨_, rfl, .one .v⟩, ⟨⟨_, rfl, .one .v⟩, ⟨⟨_, rfl, .one .v⟩, trivial⟩⟩⟩⟩) (trivial))⟩
        · replace H := cf H c22
          refine T.exit ?_
          obtain rfl := si H
          exact (sub_to [] (by decide) rfl rfl (⟨⟨_, rfl, .one .v⟩, trivial⟩) (trivial))
      · intro s hS
        have H := HO19
        refine T.sub hS ?_
        refine T.seq ?_
        refine T.region ?_
        refine RunT.ot0 (x := .v (.int .u32 o17)) rfl rfl rfl rfl (.moveX rfl) ?_
        refine RunT.ot0 (x := .v (.int .u32 o17)) rfl rfl rfl rfl (.assignX rfl) ?_
        refine RunT.ot0 (x := .v (.int .i64 0)) rfl rfl rfl rfl (.assignX rfl) ?_
        refine RunT.nil ?_
        obtain rfl := si H
        refine T.sub (sub_to (st' := ⟨[(4, .v (.int .u32 o17)), (5, .v (.int .i64 0))], [], 8, []⟩) [] (by decide) rfl rfl (⟨⟨_, rfl, .one .v⟩, ⟨⟨_, rfl, .one .v⟩, trivial⟩⟩) (trivial)) ?_
        refine T.ret ?_
        exact RetOk.same [.v (.int .u32 o17), .v (.int .i64 0)] ⟨rfl, rfl, trivial⟩ rfl rfl rfl
set_option maxHeartbeats 4000000 in
theorem record_clock_pc (al : Bool) (k : Nat) (a0 : (List Int)) (a1 : Int) (o : Int) (H : record_clock k a0 a1 = some o) : PC Try.prog al 49 [.lst (List.map eU8 a0), .v (.int .i64 a1)] (.v (.int .i64 o)) := by
  unfold record_clock at H
  refine PC.of_T Try.func49 rfl rfl (n := 29) rfl rfl (.inr rfl) ?_
  intro base B w0
  refine T.st (st' := ⟨[(0, .lst (List.map eU8 a0)), (1, .v (.int .i64 a1))], [], 0, []⟩) rfl ?_
  refine T.seq ?_
  refine T.region ?_
  refine RunT.ot0 (x := .v (.int .i64 0)) rfl rfl rfl rfl (.assignX rfl) ?_
  refine RunT.nil ?_
  refine T.seq ?_
  refine T.region ?_
  refine RunT.ot0 (x := .lst (List.map eU8 a0)) rfl rfl rfl rfl (.moveX rfl) ?_
  refine RunT.ot0 (x := .v (.int .i64 a1)) rfl rfl rfl rfl (.moveX rfl) ?_
  obtain ⟨r1, h2, H⟩ := bs H
  refine RunT.ot0 (x := .tup [.v (.int .u32 r1.1), .v (.int .i64 r1.2)]) rfl rfl rfl rfl (.callp (sum_Get_pc false k a0 a1 r1 h2) rfl ⟨(.one .lst), (.one .v), trivial⟩ rfl rfl rfl) ?_
  refine RunT.ot0 (x := .tup [.v (.int .u32 r1.1), .v (.int .i64 r1.2)]) rfl rfl rfl rfl (.moveX rfl) ?_
  refine RunT.ot0 (x := .v (.int .u32 r1.1)) rfl rfl rfl rfl (.extract rfl rfl) ?_
  refine RunT.ot0 (x := .v (.int .i64 r1.2)) rfl rfl rfl rfl (.extract rfl rfl) ?_
  refine RunT.ot0 (x := .v (.int .u32 r1.1)) rfl rfl rfl rfl (.assignX rfl) ?_
  refine RunT.ot0 (x := .v (.int .i64 r1.2)) rfl rfl rfl rfl (.assignX rfl) ?_
  refine RunT.nil ?_
  refine T.seq ?_
  refine T.region ?_
  refine RunT.ot0 (x := .lst (List.map eU8 a0)) rfl rfl rfl rfl (.moveX rfl) ?_
  refine RunT.ot0 (x := .v (.int .i64 a1)) rfl rfl rfl rfl (.moveX rfl) ?_
  refine RunT.ot0 (x := .v (.int .i64 (wr (a1 + 4)))) rfl rfl rfl rfl (.bin rfl rfl (fun w => b_addw w) rfl) ?_
  obtain ⟨r3, h4, H⟩ := bs H
  refine RunT.ot0 (x := .tup [.v (.int .u32 r3.1), .v (.int .i64 r3.2)]) rfl rfl rfl rfl (.callp (sum_Get_pc false k a0 (wr (a1 + 4)) r3 h4) rfl ⟨(.one .lst), (.one .v), trivial⟩ rfl rfl rfl) ?_
  refine RunT.ot0 (x := .tup [.v (.int .u32 r3.1), .v (.int .i64 r3.2)]) rfl rfl rfl rfl (.moveX rfl) ?_
  refine RunT.ot0 (x := .v (.int .u32 r3.1)) rfl rfl rfl rfl (.extract rfl rfl) ?_
  refine RunT.ot0 (x := .v (.int .i64 r3.2)) rfl rfl rfl rfl (.extract rfl rfl) ?_
  refine RunT.ot0 (x := .v (.int .u32 r3.1)) rfl rfl rfl rfl (.assignX rfl) ?_
  refine RunT.ot0 (x := .v (.int .i64 r3.2)) rfl rfl rfl rfl (.assignX rfl) ?_
  refine RunT.nil ?_
  refine T.seq ?_
  refine T.sub (sub_pick [5, 7] [] (st' := ⟨[(5, .v (.int .u32 r1.1)), (7, .v (.int .u32 r3.1))], [], 0, []⟩) rfl rfl rfl rfl rfl) ?_
  refine T.region ?_
  refine RunT.ot0 (x := .v (.int .u32 r1.1)) rfl rfl rfl rfl (.moveX rfl) ?_
  refine RunT.ot0 (x := .v (.int .u64 (IntKind.u64.wrap r1.1))) rfl rfl rfl rfl (.conv rfl (fun w => c_int w ⟨_, Try.underlying68⟩ Try.underlying78) rfl) ?_
  refine RunT.ot0 (x := .v (.int .u32 r3.1)) rfl rfl rfl rfl (.moveX rfl) ?_
  refine RunT.ot0 (x := .v (.int .u64 (IntKind.u64.wrap r3.1))) rfl rfl rfl rfl (.conv rfl (fun w => c_int w ⟨_, Try.underlying68⟩ Try.underlying78) rfl) ?_
  refine RunT.ot0 (x := .v (.int .u64 (IntKind.u64.wrap ((IntKind.u64.wrap r3.1) * 2 ^ (min (32 : Int).toNat IntKind.u64.bits))))) rfl rfl rfl rfl (.bin rfl rfl (fun w => b_shl w (by decide)) rfl) ?_
  refine RunT.ot0 (x := .v (.int .u64 (IntKind.u64.wrap (((BitVec.ofInt IntKind.u64.bits (IntKind.u64.wrap r1.1) ||| BitVec.ofInt IntKind.u64.bits (IntKind.u64.wrap ((IntKind.u64.wrap r3.1) * 2 ^ (min (32 : Int).toNat IntKind.u64.bits)))).toNat : Nat) : Int)))) rfl rfl rfl rfl (.bin rfl rfl (fun w => b_or' w rfl) rfl) ?_
  refine RunT.ot0 (x := .v (.int .i64 (wr (IntKind.u64.wrap (((BitVec.ofInt IntKind.u64.bits (IntKind.u64.wrap r1.1) ||| BitVec.ofInt IntKind.u64.bits (IntKind.u64.wrap ((IntKind.u64.wrap r3.1) * 2 ^ (min (32 : Int).toNat IntKind.u64.bits)))).toNat : Nat) : Int))))) rfl rfl rfl rfl (.conv rfl (fun w => c_intw w ⟨_, Try.underlying78⟩ Try.underlying2) rfl) ?_
  refine RunT.ot0 (x := .v (.int .i64 (wr (IntKind.u64.wrap (((BitVec.ofInt IntKind.u64.bits (IntKind.u64.wrap r1.1) ||| BitVec.ofInt IntKind.u64.bits (IntKind.u64.wrap ((IntKind.u64.wrap r3.1) * 2 ^ (min (32 : Int).toNat IntKind.u64.bits)))).toNat : Nat) : Int))))) rfl rfl rfl rfl (.assignX rfl) ?_
  refine RunT.nil ?_
  obtain rfl := si H
  refine T.sub (sub_to (st' := ⟨[(4, .v (.int .i64 (wr (IntKind.u64.wrap (((BitVec.ofInt IntKind.u64.bits (IntKind.u64.wrap r1.1) ||| BitVec.ofInt IntKind.u64.bits (IntKind.u64.wrap ((IntKind.u64.wrap r3.1) * 2 ^ (min (32 : Int).toNat IntKind.u64.bits)))).toNat : Nat) : Int)))))], [], 8, []⟩) [] (by decide) rfl rfl (⟨⟨_, rfl, .one .v⟩, trivial⟩) (trivial)) ?_
  refine T.ret ?_
  exact RetOk.same [.v (.int .i64 (wr (IntKind.u64.wrap (((BitVec.ofInt IntKind.u64.bits (IntKind.u64.wrap r1.1) ||| BitVec.ofInt IntKind.u64.bits (IntKind.u64.wrap ((IntKind.u64.wrap r3.1) * 2 ^ (min (32 : Int).toNat IntKind.u64.bits)))).toNat : Nat) : Int))))] ⟨rfl, trivial⟩ rfl rfl rfl
set_option maxHeartbeats 4000000 in
theorem record_Get_pc (al : Bool) (k : Nat) (a0 : (List Int)) (o : Record × Int) (H : record_Get k a0 = some o) : PC Try.prog al 35 [.lst (List.map eU8 a0)] (.tup [.agg [.v (.int .i64 o.1.Kind), .v (.string o.1.Text), .v (.int .i64 o.1.Order.Id), .v (.int .i64 o.1.Order.State), .v (.int .i64 o.1.Order.Party.Size), .v (.int .i64 o.1.Order.Party.Wheels), .v (.int .i64 o.1.Order.Until), .v (.int .i64 o.1.Order.First), .v (.int .i64 o.1.Time)], .v (.int .i64 o.2)]) := by
  unfold record_Get at H
  refine PC.of_T Try.func35 rfl rfl (n := 91) rfl rfl (.inr (flatT_tup ⟨(flatC_agg ⟨rfl, rfl, rfl, rfl, rfl, rfl, rfl, rfl, rfl, trivial⟩), rfl, trivial⟩)) ?_
  intro base B w0
  refine T.st (st' := ⟨[(0, .lst (List.map eU8 a0))], [], 0, []⟩) rfl ?_
  refine T.seq ?_
  refine T.region ?_
  refine RunT.ot1 (x := .ptr 0 0) (p0 := (0, some (.box [.v (.int .i64 0), .v (.string (⟨#[]⟩ : ByteArray)), .v (.int .i64 0), .v (.int .i64 0), .v (.int .i64 0), .v (.int .i64 0), .v (.int .i64 0), .v (.int .i64 0), .v (.int .i64 0)]))) (n' := 8) rfl rfl rfl rfl (.allocX in51.zero rfl rfl) rfl ?_
  refine RunT.ot0 (x := .v (.int .i64 0)) rfl rfl rfl rfl (.assignX rfl) ?_
  refine RunT.nil ?_
  refine T.seq ?_
  refine T.seq ?_
  refine T.region ?_
  refine RunT.ot0 (x := .lst (List.map eU8 a0)) rfl rfl rfl rfl (.moveX rfl) ?_
  refine RunT.ot0 (x := .v (.int .i64 (a0.length : Int))) rfl rfl rfl rfl (.lenLm Try.underlying35 rfl rfl) ?_
  refine RunT.ot0 (x := .v (.bool (decide ((a0.length : Int) = 0)))) rfl rfl rfl rfl (.bin rfl rfl (fun w => b_eql w) rfl) ?_
  refine RunT.nil ?_
  refine T.cond2 (t := decide ((a0.length : Int) = 0)) rfl (fun c1 => ?_) (fun c1 => ?_)
  · replace H := ct H c1
    refine T.seq ?_
    refine T.region ?_
    refine RunT.ot0 (x := .agg [.v (.int .i64 0), .v (.string (⟨#[]⟩ : ByteArray)), .v (.int .i64 0), .v (.int .i64 0), .v (.int .i64 0), .v (.int .i64 0), .v (.int .i64 0), .v (.int .i64 0), .v (.int .i64 0)]) rfl rfl rfl rfl (.bu bu51 rfl) ?_
    refine RunT.on1 (x := .junk) (p0 := (0, some (.box [.v (.int .i64 0), .v (.string (⟨#[]⟩ : ByteArray)), .v (.int .i64 0), .v (.int .i64 0), .v (.int .i64 0), .v (.int .i64 0), .v (.int .i64 0), .v (.int .i64 0), .v (.int .i64 0)]))) (n' := 16) rfl rfl rfl (.storePX ty51 rfl rfl rfl rfl rfl rfl rfl) rfl ?_
    refine RunT.ot0 (x := .v (.int .i64 10)) rfl rfl rfl rfl (.assignX rfl) ?_
    refine RunT.nil ?_
    obtain rfl := si H
    refine T.sub (sub_to (st' := ⟨[(2, .ptr 0 0), (3, .v (.int .i64 10))], [(0, some (.box [.v (.int .i64 0), .v (.string (⟨#[]⟩ : ByteArray)), .v (.int .i64 0), .v (.int .i64 0), .v (.int .i64 0), .v (.int .i64 0), .v (.int .i64 0), .v (.int .i64 0), .v (.int .i64 0)]))], 8, []⟩) [some 0] (by decide) rfl rfl (⟨⟨_, rfl, .one (.ptr rfl)⟩, ⟨⟨_, rfl, .one .v⟩, trivial⟩⟩) (⟨⟨rfl, .inl ⟨_, _, rfl, rfl, .box ⟨.v, .v, .v, .v, .v, .v, .v, .v, .v, trivial⟩⟩⟩, trivial⟩)) ?_
    refine T.ret ?_
    exact RetOk.same [.agg [.v (.int .i64 0), .v (.string (⟨#[]⟩ : ByteArray)), .v (.int .i64 0), .v (.int .i64 0), .v (.int .i64 0), .v (.int .i64 0), .v (.int .i64 0), .v (.int .i64 0), .v (.int .i64 0)], .v (.int .i64 10)] ⟨⟨0, 0, _, _, _, ty51, rfl, rfl, rfl⟩, rfl, trivial⟩ rfl rfl rfl
  · replace H := cf H c1
    refine T.skip ?_
    refine T.seq ?_
    refine T.region ?_
    refine RunT.ot0 (x := .lst (List.map eU8 a0)) rfl rfl rfl rfl (.moveX rfl) ?_
    obtain ⟨y2, h3, H⟩ := bs H
    refine RunT.ot0 (x := .rptr [.v (.int .u8 y2)]) rfl rfl rfl rfl (.idxLX h3 enc_U8 sl35 rfl rfl rfl) ?_
    refine RunT.ot0 (x := .v (.int .u8 y2)) rfl rfl rfl rfl (.loadR ty5 rfl rfl) ?_
    refine RunT.ot0 (x := .v (.int .i64 (wr y2))) rfl rfl rfl rfl (.conv rfl (fun w => c_intw w ⟨_, Try.underlying5⟩ Try.underlying3) rfl) ?_
    refine RunT.ot0 (x := .agg [.v (.int .i64 (wr y2)), .v (.string (⟨#[]⟩ : ByteArray)), .v (.int .i64 0), .v (.int .i64 0), .v (.int .i64 0), .v (.int .i64 0), .v (.int .i64 0), .v (.int .i64 0), .v (.int .i64 0)]) rfl rfl rfl rfl (.bu bu51 rfl) ?_
    refine RunT.ot1 (x := .ptr 8 0) (p0 := (8, some (.box [.v (.int .i64 0), .v (.string (⟨#[]⟩ : ByteArray)), .v (.int .i64 0), .v (.int .i64 0), .v (.int .i64 0), .v (.int .i64 0), .v (.int .i64 0), .v (.int .i64 0), .v (.int .i64 0)]))) (n' := 16) rfl rfl rfl rfl (.allocX in51.zero rfl rfl) rfl ?_
    refine RunT.on1 (x := .junk) (p0 := (8, some (.box [.v (.int .i64 (wr y2)), .v (.string (⟨#[]⟩ : ByteArray)), .v (.int .i64 0), .v (.int .i64 0), .v (.int .i64 0), .v (.int .i64 0), .v (.int .i64 0), .v (.int .i64 0), .v (.int .i64 0)]))) (n' := 24) rfl rfl rfl (.storePX ty51 rfl rfl rfl rfl rfl rfl rfl) rfl ?_
    refine RunT.nil ?_
    refine T.seq ?_
    refine T.block ?_
    refine T.seq ?_
    refine T.region ?_
    refine RunT.ot0 (x := .ptr 8 0) rfl rfl rfl rfl (.fieldPX fl51_0 rfl rfl) ?_
    refine RunT.ot0 (x := .v (.int .i64 (wr y2))) rfl rfl rfl rfl (.loadP ty3 rfl rfl rfl) ?_
    refine RunT.ot0 (x := .v (.bool (decide ((wr y2) = 1)))) rfl rfl rfl rfl (.bin rfl rfl (fun w => b_eql w) rfl) ?_
    refine RunT.ot0 (x := .v (.bool (decide ((wr y2) = 1)))) rfl rfl rfl rfl (.assignX rfl) ?_
    refine RunT.nil ?_
    obtain ⟨o28, E29, HO30⟩ := bs H
    refine T.cutE (⟨[(0, .lst (List.map eU8 a0)), (2, .ptr 0 0), (4, .ptr 1 0)], [(0, some (.box [.v (.int .i64 0), .v (.string (⟨#[]⟩ : ByteArray)), .v (.int .i64 0), .v (.int .i64 0), .v (.int .i64 0), .v (.int .i64 0), .v (.int .i64 0), .v (.int .i64 0), .v (.int .i64 0)])), (1, some (.box [.v (.int .i64 (wr y2)), .v (.string o28.1), .v (.int .i64 o28.2.1), .v (.int .i64 o28.2.2.1), .v (.int .i64 o28.2.2.2.1), .v (.int .i64 o28.2.2.2.2.1), .v (.int .i64 o28.2.2.2.2.2.1), .v (.int .i64 o28.2.2.2.2.2.2.1), .v (.int .i64 o28.2.2.2.2.2.2.2)]))], 8, []⟩) ?_ ?_
    · have H := E29
      refine T.cond2 (t := decide ((wr y2) = 1)) rfl (fun c31 => ?_) (fun c31 => ?_)
      · replace H := ct H c31
        refine T.sub (sub_pick [0, 2, 4] [0, 8] (st' := ⟨[(0, .lst (List.map eU8 a0)), (2, .ptr 0 0), (4, .ptr 8 0)], [(0, some (.box [.v (.int .i64 0), .v (.string (⟨#[]⟩ : ByteArray)), .v (.int .i64 0), .v (.int .i64 0), .v (.int .i64 0), .v (.int .i64 0), .v (.int .i64 0), .v (.int .i64 0), .v (.int .i64 0)])), (8, some (.box [.v (.int .i64 (wr y2)), .v (.string (⟨#[]⟩ : ByteArray)), .v (.int .i64 0), .v (.int .i64 0), .v (.int .i64 0), .v (.int .i64 0), .v (.int .i64 0), .v (.int .i64 0), .v (.int .i64 0)]))], 24, []⟩) rfl rfl rfl rfl rfl) ?_
        refine T.region ?_
        refine RunT.ot0 (x := .lst (List.map eU8 a0)) rfl rfl rfl rfl (.moveX rfl) ?_
        obtain ⟨y32, h33, H⟩ := bs H
        refine RunT.ot0 (x := .lst (List.map eU8 y32)) rfl rfl rfl rfl (.sliceLm sl35 rfl enc_U8 ⟨_, rfl⟩ rfl rfl h33) ?_
        refine RunT.ot0 (x := .v (.string (strOf y32))) rfl rfl rfl rfl (.toStrm (d := false) (m := y32) (f := eU8) Try.underlying35 Try.underlying5 Try.underlying9 rfl (.lstm Try.underlying35 enc_U8) (fun _ => rfl)) ?_
        refine RunT.ot0 (x := .ptr 8 1) rfl rfl rfl rfl (.fieldPX fl51_1 rfl rfl) ?_
        refine RunT.on1 (x := .junk) (p0 := (8, some (.box [.v (.int .i64 (wr y2)), .v (.string (strOf y32)), .v (.int .i64 0), .v (.int .i64 0), .v (.int .i64 0), .v (.int .i64 0), .v (.int .i64 0), .v (.int .i64 0), .v (.int .i64 0)]))) (n' := 32) rfl rfl rfl (.storePX ty9 rfl rfl rfl rfl rfl rfl rfl) rfl ?_
        refine RunT.nil ?_
        obtain rfl := si H
        exact (sub_to [some 0, some 8] (by decide) rfl rfl (⟨⟨_, rfl, .one .lst⟩, ⟨⟨_, rfl, .one (.ptr rfl)⟩, ⟨⟨_, rfl, .one (.ptr rfl)⟩, trivial⟩⟩⟩) (⟨⟨rfl, .inl ⟨_, _, rfl, rfl, .box ⟨.v, .v, .v, .v, .v, .v, .v, .v, .v, trivial⟩⟩⟩, ⟨⟨rfl, .inl ⟨_, _, rfl, rfl, .box ⟨.v, .v, .v, .v, .v, .v, .v, .v, .v, trivial⟩⟩⟩, trivial⟩⟩))
      · replace H := cf H c31
        refine T.seq ?_
        refine T.region ?_
        refine RunT.ot0 (x := .ptr 8 0) rfl rfl rfl rfl (.fieldPX fl51_0 rfl rfl) ?_
        refine RunT.ot0 (x := .v (.int .i64 (wr y2))) rfl rfl rfl rfl (.loadP ty3 rfl rfl rfl) ?_
        refine RunT.ot0 (x := .v (.bool (decide ((wr y2) = 3)))) rfl rfl rfl rfl (.bin rfl rfl (fun w => b_eql w) rfl) ?_
        refine RunT.ot0 (x := .v (.bool (decide ((wr y2) = 3)))) rfl rfl rfl rfl (.assignX rfl) ?_
        refine RunT.nil ?_
        refine T.cond2 (t := decide ((wr y2) = 3)) rfl (fun c34 => ?_) (fun c34 => ?_)
        · replace H := ct H c34
          refine T.region ?_
          refine RunT.ot0 (x := .lst (List.map eU8 a0)) rfl rfl rfl rfl (.moveX rfl) ?_
          obtain ⟨r35, h36, H⟩ := bs H
          refine RunT.ot0 (x := .v (.int .i64 r35)) rfl rfl rfl rfl (.callp (record_clock_pc false k a0 1 r35 h36) rfl ⟨(.one .lst), (.one .v), trivial⟩ rfl rfl rfl) ?_
          refine RunT.ot0 (x := .ptr 8 8) rfl rfl rfl rfl (.fieldPX fl51_3 rfl rfl) ?_
          refine RunT.on1 (x := .junk) (p0 := (8, some (.box [.v (.int .i64 (wr y2)), .v (.string (⟨#[]⟩ : ByteArray)), .v (.int .i64 0), .v (.int .i64 0), .v (.int .i64 0), .v (.int .i64 0), .v (.int .i64 0), .v (.int .i64 0), .v (.int .i64 r35)]))) (n' := 32) rfl rfl rfl (.storePX ty2 rfl rfl rfl rfl rfl rfl rfl) rfl ?_
          refine RunT.nil ?_
          obtain rfl := si H
          exact (sub_to [some 0, some 8] (by decide) rfl rfl (⟨⟨_, rfl, .one .lst⟩, ⟨⟨_, rfl, .one (.ptr rfl)⟩, ⟨⟨_, rfl, .one (.ptr rfl)⟩, trivial⟩⟩⟩) (⟨⟨rfl, .inl ⟨_, _, rfl, rfl, .box ⟨.v, .v, .v, .v, .v, .v, .v, .v, .v, trivial⟩⟩⟩, ⟨⟨rfl, .inl ⟨_, _, rfl, rfl, .box ⟨.v, .v, .v, .v, .v, .v, .v, .v, .v, trivial⟩⟩⟩, trivial⟩⟩))
        · replace H := cf H c34
          obtain ⟨o38, E39, HO40⟩ := bs H
          refine T.cut (⟨[(0, .lst (List.map eU8 a0)), (2, .ptr 0 0), (4, .ptr 1 0), (35, .v (.bool o38))], [(0, some (.box [.v (.int .i64 0), .v (.string (⟨#[]⟩ : ByteArray)), .v (.int .i64 0), .v (.int .i64 0), .v (.int .i64 0), .v (.int .i64 0), .v (.int .i64 0), .v (.int .i64 0), .v (.int .i64 0)])), (1, some (.box [.v (.int .i64 (wr y2)), .v (.string (⟨#[]⟩ : ByteArray)), .v (.int .i64 0), .v (.int .i64 0), .v (.int .i64 0), .v (.int .i64 0), .v (.int .i64 0), .v (.int .i64 0), .v (.int .i64 0)]))], 8, []⟩) ?_ ?_
          · have H := E39
            refine T.sub (sub_pick [0, 2, 4] [0, 8] (st' := ⟨[(0, .lst (List.map eU8 a0)), (2, .ptr 0 0), (4, .ptr 8 0)], [(0, some (.box [.v (.int .i64 0), .v (.string (⟨#[]⟩ : ByteArray)), .v (.int .i64 0), .v (.int .i64 0), .v (.int .i64 0), .v (.int .i64 0), .v (.int .i64 0), .v (.int .i64 0), .v (.int .i64 0)])), (8, some (.box [.v (.int .i64 (wr y2)), .v (.string (⟨#[]⟩ : ByteArray)), .v (.int .i64 0), .v (.int .i64 0), .v (.int .i64 0), .v (.int .i64 0), .v (.int .i64 0), .v (.int .i64 0), .v (.int .i64 0)]))], 24, []⟩) rfl rfl rfl rfl rfl) ?_
            refine T.region ?_
            refine RunT.ot0 (x := .ptr 8 0) rfl rfl rfl rfl (.fieldPX fl51_0 rfl rfl) ?_
            refine RunT.ot0 (x := .v (.int .i64 (wr y2))) rfl rfl rfl rfl (.loadP ty3 rfl rfl rfl) ?_
            refine RunT.ot0 (x := .v (.bool (decide ((wr y2) = 2)))) rfl rfl rfl rfl (.bin rfl rfl (fun w => b_eql w) rfl) ?_
            refine RunT.ot0 (x := .v (.bool (decide ((wr y2) = 2)))) rfl rfl rfl rfl (.moveX rfl) ?_
            refine RunT.cases (t := 39) (c := decide ((wr y2) = 2)) rfl (fun g41 => ?_) (fun g41 => ?_)
            · replace H := ct H g41
              refine RunT.gt0 (x := .lst (List.map eU8 a0)) rfl rfl rfl (bo g41) rfl rfl (.moveX rfl) ?_
              refine RunT.gt0 (x := .v (.int .i64 (a0.length : Int))) rfl rfl rfl (bo g41) rfl rfl (.lenLm Try.underlying35 rfl rfl) ?_
              refine RunT.gt0 (x := .v (.bool (decide (7 < (a0.length : Int))))) rfl rfl rfl (bo g41) rfl rfl (.bin rfl rfl (fun w => b_gtr w) rfl) ?_
              refine RunT.ot0 (x := .v (.bool (decide (7 < (a0.length : Int))))) rfl rfl rfl rfl (.pickT (bo g41) rfl) ?_
              refine RunT.ot0 (x := .v (.bool (decide (7 < (a0.length : Int))))) rfl rfl rfl rfl (.assignX rfl) ?_
              refine RunT.nil ?_
              obtain rfl := si H
              exact (sub_to [some 0, some 8] (by decide) rfl rfl (⟨⟨_, rfl, .one .lst⟩, ⟨⟨_, rfl, .one (.ptr rfl)⟩, ⟨⟨_, rfl, .one (.ptr rfl)⟩, ⟨⟨_, rfl, .one .v⟩, trivial⟩⟩⟩⟩) (⟨⟨rfl, .inl ⟨_, _, rfl, rfl, .box ⟨.v, .v, .v, .v, .v, .v, .v, .v, .v, trivial⟩⟩⟩, ⟨⟨rfl, .inl ⟨_, _, rfl, rfl, .box ⟨.v, .v, .v, .v, .v, .v, .v, .v, .v, trivial⟩⟩⟩, trivial⟩⟩))
            · replace H := cf H g41
              refine RunT.xn rfl rfl rfl (bo g41) rfl rfl ?_
              refine RunT.xn rfl rfl rfl (bo g41) rfl rfl ?_
              refine RunT.xn rfl rfl rfl (bo g41) rfl rfl ?_
              refine RunT.ot0 (x := .v (.bool false)) rfl rfl rfl rfl (.pickF (bo g41) rfl) ?_
              refine RunT.ot0 (x := .v (.bool false)) rfl rfl rfl rfl (.assignX rfl) ?_
              refine RunT.nil ?_
              obtain rfl := si H
              exact (sub_to [some 0, some 8] (by decide) rfl rfl (⟨⟨_, rfl, .one .lst⟩, ⟨⟨_, rfl, .one (.ptr rfl)⟩, ⟨⟨_, rfl, .one (.ptr rfl)⟩, ⟨⟨_, rfl, .one .v⟩, trivial⟩⟩⟩⟩) (⟨⟨rfl, .inl ⟨_, _, rfl, rfl, .box ⟨.v, .v, .v, .v, .v, .v, .v, .v, .v, trivial⟩⟩⟩, ⟨⟨rfl, .inl ⟨_, _, rfl, rfl, .box ⟨.v, .v, .v, .v, .v, .v, .v, .v, .v, trivial⟩⟩⟩, trivial⟩⟩))
          · have H := HO40
            refine T.cond2 (t := o38) rfl (fun c42 => ?_) (fun c42 => ?_)
            · replace H := ct H c42
              refine T.seq ?_
              refine T.region ?_
              refine RunT.ot0 (x := .lst (List.map eU8 a0)) rfl rfl rfl rfl (.moveX rfl) ?_
              obtain ⟨r43, h44, H⟩ := bs H
              refine RunT.ot0 (x := .tup [.v (.int .u32 r43.1), .v (.int .i64 r43.2)]) rfl rfl rfl rfl (.callp (sum_Get_pc false k a0 1 r43 h44) rfl ⟨(.one .lst), (.one .v), trivial⟩ rfl rfl rfl) ?_
              refine RunT.ot0 (x := .tup [.v (.int .u32 r43.1), .v (.int .i64 r43.2)]) rfl rfl rfl rfl (.moveX rfl) ?_
              refine RunT.ot0 (x := .v (.int .u32 r43.1)) rfl rfl rfl rfl (.extract rfl rfl) ?_
              refine RunT.ot0 (x := .v (.int .i64 r43.2)) rfl rfl rfl rfl (.extract rfl rfl) ?_
              refine RunT.ot0 (x := .v (.int .u32 r43.1)) rfl rfl rfl rfl (.assignX rfl) ?_
              refine RunT.ot0 (x := .v (.int .i64 r43.2)) rfl rfl rfl rfl (.assignX rfl) ?_
              refine RunT.nil ?_
              refine T.seq ?_
              refine T.sub (sub_pick [0, 2, 4, 5] [0, 1] (st' := ⟨[(0, .lst (List.map eU8 a0)), (2, .ptr 0 0), (4, .ptr 1 0), (5, .v (.int .u32 r43.1))], [(0, some (.box [.v (.int .i64 0), .v (.string (⟨#[]⟩ : ByteArray)), .v (.int .i64 0), .v (.int .i64 0), .v (.int .i64 0), .v (.int .i64 0), .v (.int .i64 0), .v (.int .i64 0), .v (.int .i64 0)])), (1, some (.box [.v (.int .i64 (wr y2)), .v (.string (⟨#[]⟩ : ByteArray)), .v (.int .i64 0), .v (.int .i64 0), .v (.int .i64 0), .v (.int .i64 0), .v (.int .i64 0), .v (.int .i64 0), .v (.int .i64 0)]))], 8, []⟩) rfl rfl rfl rfl rfl) ?_
              refine T.region ?_
              refine RunT.ot0 (x := .lst (List.map eU8 a0)) rfl rfl rfl rfl (.moveX rfl) ?_
              obtain ⟨r45, h46, H⟩ := bs H
              refine RunT.ot0 (x := .tup [.v (.int .u32 r45.1), .v (.int .i64 r45.2)]) rfl rfl rfl rfl (.callp (sum_Get_pc false k a0 16 r45 h46) rfl ⟨(.one .lst), (.one .v), trivial⟩ rfl rfl rfl) ?_
              refine RunT.ot0 (x := .tup [.v (.int .u32 r45.1), .v (.int .i64 r45.2)]) rfl rfl rfl rfl (.moveX rfl) ?_
              refine RunT.ot0 (x := .v (.int .u32 r45.1)) rfl rfl rfl rfl (.extract rfl rfl) ?_
              refine RunT.ot0 (x := .v (.int .i64 r45.2)) rfl rfl rfl rfl (.extract rfl rfl) ?_
              refine RunT.ot0 (x := .v (.int .u32 r45.1)) rfl rfl rfl rfl (.assignX rfl) ?_
              refine RunT.ot0 (x := .v (.int .i64 r45.2)) rfl rfl rfl rfl (.assignX rfl) ?_
              refine RunT.nil ?_
              refine T.draw (wr := [(22, [1])]) mixed rfl rfl ?_ rfl
              refine RunD.ot0 (x := .v (.int .u32 r43.1)) rfl rfl rfl rfl (.moveX rfl) rfl ?_
              refine RunD.ot0 (x := .v (.int .i64 (wr r43.1))) rfl rfl rfl rfl (.conv rfl (fun w => c_intw w ⟨_, Try.underlying68⟩ Try.underlying3) rfl) rfl ?_
              refine RunD.ot0 (x := .lst (List.map eU8 a0)) rfl rfl rfl rfl (.moveX rfl) rfl ?_
              obtain ⟨y55, h56, H⟩ := bs H
              refine RunD.ot0 (x := .rptr [.v (.int .u8 y55)]) rfl rfl rfl rfl (.idxLX h56 enc_U8 sl35 rfl rfl rfl) rfl ?_
              refine RunD.ot0 (x := .v (.int .u8 y55)) rfl rfl rfl rfl (.loadR ty5 rfl rfl) rfl ?_
              refine RunD.ot0 (x := .v (.int .i64 (wr y55))) rfl rfl rfl rfl (.conv rfl (fun w => c_intw w ⟨_, Try.underlying5⟩ Try.underlying3) rfl) rfl ?_
              refine RunD.ot0 (x := .lst (List.map eU8 a0)) rfl rfl rfl rfl (.moveX rfl) rfl ?_
              obtain ⟨y57, h58, H⟩ := bs H
              refine RunD.ot0 (x := .rptr [.v (.int .u8 y57)]) rfl rfl rfl rfl (.idxLX h58 enc_U8 sl35 rfl rfl rfl) rfl ?_
              refine RunD.ot0 (x := .v (.int .u8 y57)) rfl rfl rfl rfl (.loadR ty5 rfl rfl) rfl ?_
              refine RunD.ot0 (x := .v (.int .i64 (wr y57))) rfl rfl rfl rfl (.conv rfl (fun w => c_intw w ⟨_, Try.underlying5⟩ Try.underlying3) rfl) rfl ?_
              refine RunD.ot0 (x := .lst (List.map eU8 a0)) rfl rfl rfl rfl (.moveX rfl) rfl ?_
              obtain ⟨y59, h60, H⟩ := bs H
              refine RunD.ot0 (x := .rptr [.v (.int .u8 y59)]) rfl rfl rfl rfl (.idxLX h60 enc_U8 sl35 rfl rfl rfl) rfl ?_
              refine RunD.ot0 (x := .v (.int .u8 y59)) rfl rfl rfl rfl (.loadR ty5 rfl rfl) rfl ?_
              refine RunD.ot0 (x := .v (.int .i64 (wr y59))) rfl rfl rfl rfl (.conv rfl (fun w => c_intw w ⟨_, Try.underlying5⟩ Try.underlying3) rfl) rfl ?_
              refine RunD.ot0 (x := .agg [.v (.int .i64 (wr y57)), .v (.int .i64 (wr y59))]) rfl rfl rfl rfl (.bu bu23 rfl) rfl ?_
              refine RunD.ot0 (x := .lst (List.map eU8 a0)) rfl rfl rfl rfl (.moveX rfl) rfl ?_
              obtain ⟨r61, h62, H⟩ := bs H
              refine RunD.ot0 (x := .v (.int .i64 r61)) rfl rfl rfl rfl (.callp (record_clock_pc false k a0 8 r61 h62) rfl ⟨(.one .lst), (.one .v), trivial⟩ rfl rfl rfl) rfl ?_
              refine RunD.ot0 (x := .v (.int .u32 r45.1)) rfl rfl rfl rfl (.moveX rfl) rfl ?_
              refine RunD.ot0 (x := .v (.int .i64 (wr r45.1))) rfl rfl rfl rfl (.conv rfl (fun w => c_intw w ⟨_, Try.underlying68⟩ Try.underlying3) rfl) rfl ?_
              refine RunD.ot0 (x := .v (.int .i64 (wr ((wr r45.1) - 1)))) rfl rfl rfl rfl (.bin rfl rfl (fun w => b_subw w) rfl) rfl ?_
              refine RunD.ot0 (x := .agg [.v (.int .i64 (wr r43.1)), .v (.int .i64 (wr y55)), .v (.int .i64 (wr y57)), .v (.int .i64 (wr y59)), .v (.int .i64 r61), .v (.int .i64 (wr ((wr r45.1) - 1)))]) rfl rfl rfl rfl (.bu bu49 rfl) rfl ?_
              refine RunD.ot0 (x := .ptr 1 2) rfl rfl rfl rfl (.fieldPX fl51_2 rfl rfl) rfl ?_
              refine RunD.on1 (x := .junk) (p0 := (1, some (.box [.v (.int .i64 (wr y2)), .v (.string (⟨#[]⟩ : ByteArray)), .v (.int .i64 (wr r43.1)), .v (.int .i64 (wr y55)), .v (.int .i64 (wr y57)), .v (.int .i64 (wr y59)), .v (.int .i64 r61), .v (.int .i64 (wr ((wr r45.1) - 1))), .v (.int .i64 0)]))) rfl rfl rfl (.storePX ty49 rfl rfl rfl rfl rfl rfl rfl) rfl ?_
              refine RunD.nil (by kernel_rfl) ⟨rfl, rfl, ?_⟩
              obtain rfl := si H
              exact (sub_to [some 0, some 1] (by decide) rfl rfl (⟨⟨_, rfl, .one .lst⟩, ⟨⟨_, rfl, .one (.ptr rfl)⟩, ⟨⟨_, rfl, .one (.ptr rfl)⟩, trivial⟩⟩⟩) (⟨⟨rfl, .inl ⟨_, _, rfl, rfl, .box ⟨.v, .v, .v, .v, .v, .v, .v, .v, .v, trivial⟩⟩⟩, ⟨⟨rfl, .inl ⟨_, _, rfl, rfl, .box ⟨.v, .v, .v, .v, .v, .v, .v, .v, .v, trivial⟩⟩⟩, trivial⟩⟩))
            · replace H := cf H c42
              refine T.skip ?_
              obtain rfl := si H
              exact (sub_to [some 0, some 1] (by decide) rfl rfl (⟨⟨_, rfl, .one .lst⟩, ⟨⟨_, rfl, .one (.ptr rfl)⟩, ⟨⟨_, rfl, .one (.ptr rfl)⟩, trivial⟩⟩⟩) (⟨⟨rfl, .inl ⟨_, _, rfl, rfl, .box ⟨.v, .v, .v, .v, .v, .v, .v, .v, .v, trivial⟩⟩⟩, ⟨⟨rfl, .inl ⟨_, _, rfl, rfl, .box ⟨.v, .v, .v, .v, .v, .v, .v, .v, .v, trivial⟩⟩⟩, trivial⟩⟩))
    · intro s hS
      have H := HO30
      refine T.sub hS ?_
      refine T.seq ?_
      refine T.seq ?_
      refine T.sub (sub_pick [0, 2, 4] [0, 1] (st' := ⟨[(0, .lst (List.map eU8 a0)), (2, .ptr 0 0), (4, .ptr 1 0)], [(0, some (.box [.v (.int .i64 0), .v (.string (⟨#[]⟩ : ByteArray)), .v (.int .i64 0), .v (.int .i64 0), .v (.int .i64 0), .v (.int .i64 0), .v (.int .i64 0), .v (.int .i64 0), .v (.int .i64 0)])), (1, some (.box [.v (.int .i64 (wr y2)), .v (.string o28.1), .v (.int .i64 o28.2.1), .v (.int .i64 o28.2.2.1), .v (.int .i64 o28.2.2.2.1), .v (.int .i64 o28.2.2.2.2.1), .v (.int .i64 o28.2.2.2.2.2.1), .v (.int .i64 o28.2.2.2.2.2.2.1), .v (.int .i64 o28.2.2.2.2.2.2.2)]))], 8, []⟩) rfl rfl rfl rfl rfl) ?_
      refine T.region ?_
      refine RunT.ot0 (x := .agg [.v (.int .i64 (wr y2)), .v (.string o28.1), .v (.int .i64 o28.2.1), .v (.int .i64 o28.2.2.1), .v (.int .i64 o28.2.2.2.1), .v (.int .i64 o28.2.2.2.2.1), .v (.int .i64 o28.2.2.2.2.2.1), .v (.int .i64 o28.2.2.2.2.2.2.1), .v (.int .i64 o28.2.2.2.2.2.2.2)]) rfl rfl rfl rfl (.loadP ty51 rfl rfl rfl) ?_
      obtain ⟨r63, h64, H⟩ := bs H
      refine RunT.ot0 (x := .tup [.lst (List.map eU8 r63.1), .v (.int .i64 r63.2)]) rfl rfl rfl rfl (.callp (PC.frozen (record_Put_pc false k (Record.mk (wr y2) o28.1 (Order.mk o28.2.1 o28.2.2.1 (Party.mk o28.2.2.2.1 o28.2.2.2.2.1) o28.2.2.2.2.2.1 o28.2.2.2.2.2.2.1) o28.2.2.2.2.2.2.2) r63 h64)) rfl ⟨(.agg' ⟨.v, .v, .v, .v, .v, .v, .v, .v, .v, trivial⟩), trivial⟩ rfl rfl rfl) ?_
      refine RunT.ot0 (x := .tup [.lst (List.map eU8 r63.1), .v (.int .i64 r63.2)]) rfl rfl rfl rfl (.moveX rfl) ?_
      refine RunT.ot0 (x := .lst (List.map eU8 r63.1)) rfl rfl rfl rfl (.extract rfl rfl) ?_
      refine RunT.ot0 (x := .v (.int .i64 r63.2)) rfl rfl rfl rfl (.extract rfl rfl) ?_
      refine RunT.ot0 (x := .lst (List.map eU8 r63.1)) rfl rfl rfl rfl (.assignX rfl) ?_
      refine RunT.ot0 (x := .v (.int .i64 r63.2)) rfl rfl rfl rfl (.assignX rfl) ?_
      refine RunT.nil ?_
      refine T.seq ?_
      refine T.region ?_
      refine RunT.ot0 (x := .v (.int .i64 r63.2)) rfl rfl rfl rfl (.moveX rfl) ?_
      refine RunT.ot0 (x := .v (.bool (!decide (r63.2 = 0)))) rfl rfl rfl rfl (.bin rfl rfl (fun w => b_neq w) rfl) ?_
      refine RunT.ot0 (x := .v (.bool (!decide (r63.2 = 0)))) rfl rfl rfl rfl (.moveX rfl) ?_
      refine RunT.cases (t := 83) (c := !decide (r63.2 = 0)) rfl (fun g65 => ?_) (fun g65 => ?_)
      · replace H := ct H g65
        refine RunT.xn rfl rfl rfl (bo g65) rfl rfl ?_
        refine RunT.xn rfl rfl rfl (bo g65) rfl rfl ?_
        refine RunT.xn rfl rfl rfl (bo g65) rfl rfl ?_
        refine RunT.xn rfl rfl rfl (bo g65) rfl rfl ?_
        refine RunT.ot0 (x := .v (.bool true)) rfl rfl rfl rfl (.pickT (bo g65) rfl) ?_
        refine RunT.nil ?_
        refine T.condT rfl ?_
        refine T.seq ?_
        refine T.region ?_
        refine RunT.ot0 (x := .agg [.v (.int .i64 0), .v (.string (⟨#[]⟩ : ByteArray)), .v (.int .i64 0), .v (.int .i64 0), .v (.int .i64 0), .v (.int .i64 0), .v (.int .i64 0), .v (.int .i64 0), .v (.int .i64 0)]) rfl rfl rfl rfl (.bu bu51 rfl) ?_
        refine RunT.on1 (x := .junk) (p0 := (0, some (.box [.v (.int .i64 0), .v (.string (⟨#[]⟩ : ByteArray)), .v (.int .i64 0), .v (.int .i64 0), .v (.int .i64 0), .v (.int .i64 0), .v (.int .i64 0), .v (.int .i64 0), .v (.int .i64 0)]))) (n' := 16) rfl rfl rfl (.storePX ty51 rfl rfl rfl rfl rfl rfl rfl) rfl ?_
        refine RunT.ot0 (x := .v (.int .i64 10)) rfl rfl rfl rfl (.assignX rfl) ?_
        refine RunT.nil ?_
        obtain rfl := si H
        refine T.sub (sub_to (st' := ⟨[(2, .ptr 0 0), (3, .v (.int .i64 10))], [(0, some (.box [.v (.int .i64 0), .v (.string (⟨#[]⟩ : ByteArray)), .v (.int .i64 0), .v (.int .i64 0), .v (.int .i64 0), .v (.int .i64 0), .v (.int .i64 0), .v (.int .i64 0), .v (.int .i64 0)]))], 8, []⟩) [some 0] (by decide) rfl rfl (⟨⟨_, rfl, .one (.ptr rfl)⟩, ⟨⟨_, rfl, .one .v⟩, trivial⟩⟩) (⟨⟨rfl, .inl ⟨_, _, rfl, rfl, .box ⟨.v, .v, .v, .v, .v, .v, .v, .v, .v, trivial⟩⟩⟩, trivial⟩)) ?_
        refine T.ret ?_
        exact RetOk.same [.agg [.v (.int .i64 0), .v (.string (⟨#[]⟩ : ByteArray)), .v (.int .i64 0), .v (.int .i64 0), .v (.int .i64 0), .v (.int .i64 0), .v (.int .i64 0), .v (.int .i64 0), .v (.int .i64 0)], .v (.int .i64 10)] ⟨⟨0, 0, _, _, _, ty51, rfl, rfl, rfl⟩, rfl, trivial⟩ rfl rfl rfl
      · replace H := cf H g65
        refine RunT.gt0 (x := .lst (List.map eU8 r63.1)) rfl rfl rfl (bo g65) rfl rfl (.moveX rfl) ?_
        refine RunT.gt0 (x := .lst (List.map eU8 a0)) rfl rfl rfl (bo g65) rfl rfl (.moveX rfl) ?_
        obtain ⟨r66, h67, H⟩ := bs H
        refine RunT.gt0 (x := .v (.bool r66)) rfl rfl rfl (bo g65) rfl rfl (.callp (bytes_Equal_pc false k r63.1 a0 r66 h67) rfl ⟨(.one .lst), (.one .lst), trivial⟩ rfl rfl rfl) ?_
        refine RunT.gt0 (x := .v (.bool (!r66))) rfl rfl rfl (bo g65) rfl rfl (.un rfl (fun w => u_not w) rfl) ?_
        refine RunT.ot0 (x := .v (.bool (!r66))) rfl rfl rfl rfl (.pickF (bo g65) rfl) ?_
        refine RunT.nil ?_
        refine T.cond2 (t := !r66) rfl (fun c68 => ?_) (fun c68 => ?_)
        · replace H := ct H c68
          refine T.seq ?_
          refine T.sub (sub_pick [2] [0] (st' := ⟨[(2, .ptr 0 0)], [(0, some (.box [.v (.int .i64 0), .v (.string (⟨#[]⟩ : ByteArray)), .v (.int .i64 0), .v (.int .i64 0), .v (.int .i64 0), .v (.int .i64 0), .v (.int .i64 0), .v (.int .i64 0), .v (.int .i64 0)]))], 8, []⟩) rfl rfl rfl rfl rfl) ?_
          refine T.region ?_
          refine RunT.ot0 (x := .agg [.v (.int .i64 0), .v (.string (⟨#[]⟩ : ByteArray)), .v (.int .i64 0), .v (.int .i64 0), .v (.int .i64 0), .v (.int .i64 0), .v (.int .i64 0), .v (.int .i64 0), .v (.int .i64 0)]) rfl rfl rfl rfl (.bu bu51 rfl) ?_
          refine RunT.on1 (x := .junk) (p0 := (0, some (.box [.v (.int .i64 0), .v (.string (⟨#[]⟩ : ByteArray)), .v (.int .i64 0), .v (.int .i64 0), .v (.int .i64 0), .v (.int .i64 0), .v (.int .i64 0), .v (.int .i64 0), .v (.int .i64 0)]))) (n' := 16) rfl rfl rfl (.storePX ty51 rfl rfl rfl rfl rfl rfl rfl) rfl ?_
          refine RunT.ot0 (x := .v (.int .i64 10)) rfl rfl rfl rfl (.assignX rfl) ?_
          refine RunT.nil ?_
          obtain rfl := si H
          refine T.sub (sub_to (st' := ⟨[(2, .ptr 0 0), (3, .v (.int .i64 10))], [(0, some (.box [.v (.int .i64 0), .v (.string (⟨#[]⟩ : ByteArray)), .v (.int .i64 0), .v (.int .i64 0), .v (.int .i64 0), .v (.int .i64 0), .v (.int .i64 0), .v (.int .i64 0), .v (.int .i64 0)]))], 8, []⟩) [some 0] (by decide) rfl rfl (⟨⟨_, rfl, .one (.ptr rfl)⟩, ⟨⟨_, rfl, .one .v⟩, trivial⟩⟩) (⟨⟨rfl, .inl ⟨_, _, rfl, rfl, .box ⟨.v, .v, .v, .v, .v, .v, .v, .v, .v, trivial⟩⟩⟩, trivial⟩)) ?_
          refine T.ret ?_
          exact RetOk.same [.agg [.v (.int .i64 0), .v (.string (⟨#[]⟩ : ByteArray)), .v (.int .i64 0), .v (.int .i64 0), .v (.int .i64 0), .v (.int .i64 0), .v (.int .i64 0), .v (.int .i64 0), .v (.int .i64 0)], .v (.int .i64 10)] ⟨⟨0, 0, _, _, _, ty51, rfl, rfl, rfl⟩, rfl, trivial⟩ rfl rfl rfl
        · replace H := cf H c68
          refine T.skip ?_
          refine T.seq ?_
          refine T.region ?_
          refine RunT.ot0 (x := .agg [.v (.int .i64 (wr y2)), .v (.string o28.1), .v (.int .i64 o28.2.1), .v (.int .i64 o28.2.2.1), .v (.int .i64 o28.2.2.2.1), .v (.int .i64 o28.2.2.2.2.1), .v (.int .i64 o28.2.2.2.2.2.1), .v (.int .i64 o28.2.2.2.2.2.2.1), .v (.int .i64 o28.2.2.2.2.2.2.2)]) rfl rfl rfl rfl (.loadP ty51 rfl rfl rfl) ?_
          refine RunT.on1 (x := .junk) (p0 := (0, some (.box [.v (.int .i64 (wr y2)), .v (.string o28.1), .v (.int .i64 o28.2.1), .v (.int .i64 o28.2.2.1), .v (.int .i64 o28.2.2.2.1), .v (.int .i64 o28.2.2.2.2.1), .v (.int .i64 o28.2.2.2.2.2.1), .v (.int .i64 o28.2.2.2.2.2.2.1), .v (.int .i64 o28.2.2.2.2.2.2.2)]))) (n' := 16) rfl rfl rfl (.storePX ty51 rfl rfl rfl rfl rfl rfl rfl) rfl ?_
          refine RunT.ot0 (x := .v (.int .i64 0)) rfl rfl rfl rfl (.assignX rfl) ?_
          refine RunT.nil ?_
          obtain rfl := si H
          refine T.sub (sub_to (st' := ⟨[(2, .ptr 0 0), (3, .v (.int .i64 0))], [(0, some (.box [.v (.int .i64 (wr y2)), .v (.string o28.1), .v (.int .i64 o28.2.1), .v (.int .i64 o28.2.2.1), .v (.int .i64 o28.2.2.2.1), .v (.int .i64 o28.2.2.2.2.1), .v (.int .i64 o28.2.2.2.2.2.1), .v (.int .i64 o28.2.2.2.2.2.2.1), .v (.int .i64 o28.2.2.2.2.2.2.2)]))], 8, []⟩) [some 0] (by decide) rfl rfl (⟨⟨_, rfl, .one (.ptr rfl)⟩, ⟨⟨_, rfl, .one .v⟩, trivial⟩⟩) (⟨⟨rfl, .inl ⟨_, _, rfl, rfl, .box ⟨.v, .v, .v, .v, .v, .v, .v, .v, .v, trivial⟩⟩⟩, trivial⟩)) ?_
          refine T.ret ?_
          exact RetOk.same [.agg [.v (.int .i64 (wr y2)), .v (.string o28.1), .v (.int .i64 o28.2.1), .v (.int .i64 o28.2.2.1), .v (.int .i64 o28.2.2.2.1), .v (.int .i64 o28.2.2.2.2.1), .v (.int .i64 o28.2.2.2.2.2.1), .v (.int .i64 o28.2.2.2.2.2.2.1), .v (.int .i64 o28.2.2.2.2.2.2.2)], .v (.int .i64 0)] ⟨⟨0, 0, _, _, _, ty51, rfl, rfl, rfl⟩, rfl, trivial⟩ rfl rfl rfl
set_option maxHeartbeats 4000000 in
theorem record_Same_pc (al : Bool) (k : Nat) (a0 : Record) (a1 : Record) (o : Bool) (H : record_Same k a0 a1 = some o) : PC Try.prog al 39 [.agg [.v (.int .i64 a0.Kind), .v (.string a0.Text), .v (.int .i64 a0.Order.Id), .v (.int .i64 a0.Order.State), .v (.int .i64 a0.Order.Party.Size), .v (.int .i64 a0.Order.Party.Wheels), .v (.int .i64 a0.Order.Until), .v (.int .i64 a0.Order.First), .v (.int .i64 a0.Time)], .agg [.v (.int .i64 a1.Kind), .v (.string a1.Text), .v (.int .i64 a1.Order.Id), .v (.int .i64 a1.Order.State), .v (.int .i64 a1.Order.Party.Size), .v (.int .i64 a1.Order.Party.Wheels), .v (.int .i64 a1.Order.Until), .v (.int .i64 a1.Order.First), .v (.int .i64 a1.Time)]] (.v (.bool o)) := by
  unfold record_Same at H
  refine PC.of_T Try.func39 rfl rfl (n := 8) rfl rfl (.inr rfl) ?_
  intro base B w0
  refine T.st (st' := ⟨[(0, .agg [.v (.int .i64 a0.Kind), .v (.string a0.Text), .v (.int .i64 a0.Order.Id), .v (.int .i64 a0.Order.State), .v (.int .i64 a0.Order.Party.Size), .v (.int .i64 a0.Order.Party.Wheels), .v (.int .i64 a0.Order.Until), .v (.int .i64 a0.Order.First), .v (.int .i64 a0.Time)]), (1, .agg [.v (.int .i64 a1.Kind), .v (.string a1.Text), .v (.int .i64 a1.Order.Id), .v (.int .i64 a1.Order.State), .v (.int .i64 a1.Order.Party.Size), .v (.int .i64 a1.Order.Party.Wheels), .v (.int .i64 a1.Order.Until), .v (.int .i64 a1.Order.First), .v (.int .i64 a1.Time)])], [], 0, []⟩) rfl ?_
  refine T.seq ?_
  refine T.region ?_
  refine RunT.ot1 (x := .ptr 0 0) (p0 := (0, some (.box [.v (.int .i64 a0.Kind), .v (.string a0.Text), .v (.int .i64 a0.Order.Id), .v (.int .i64 a0.Order.State), .v (.int .i64 a0.Order.Party.Size), .v (.int .i64 a0.Order.Party.Wheels), .v (.int .i64 a0.Order.Until), .v (.int .i64 a0.Order.First), .v (.int .i64 a0.Time)]))) (n' := 8) rfl rfl rfl rfl (.boxX rfl rfl rfl) rfl ?_
  refine RunT.ot1 (x := .ptr 8 0) (p0 := (8, some (.box [.v (.int .i64 a1.Kind), .v (.string a1.Text), .v (.int .i64 a1.Order.Id), .v (.int .i64 a1.Order.State), .v (.int .i64 a1.Order.Party.Size), .v (.int .i64 a1.Order.Party.Wheels), .v (.int .i64 a1.Order.Until), .v (.int .i64 a1.Order.First), .v (.int .i64 a1.Time)]))) (n' := 16) rfl rfl rfl rfl (.boxX rfl rfl rfl) rfl ?_
  refine RunT.ot0 (x := .v (.bool false)) rfl rfl rfl rfl (.assignX rfl) ?_
  refine RunT.nil ?_
  refine T.seq ?_
  refine T.region ?_
  refine RunT.ot0 (x := .agg [.v (.int .i64 a0.Kind), .v (.string a0.Text), .v (.int .i64 a0.Order.Id), .v (.int .i64 a0.Order.State), .v (.int .i64 a0.Order.Party.Size), .v (.int .i64 a0.Order.Party.Wheels), .v (.int .i64 a0.Order.Until), .v (.int .i64 a0.Order.First), .v (.int .i64 a0.Time)]) rfl rfl rfl rfl (.loadP ty51 rfl rfl rfl) ?_
  refine RunT.ot0 (x := .agg [.v (.int .i64 a1.Kind), .v (.string a1.Text), .v (.int .i64 a1.Order.Id), .v (.int .i64 a1.Order.State), .v (.int .i64 a1.Order.Party.Size), .v (.int .i64 a1.Order.Party.Wheels), .v (.int .i64 a1.Order.Until), .v (.int .i64 a1.Order.First), .v (.int .i64 a1.Time)]) rfl rfl rfl rfl (.loadP ty51 rfl rfl rfl) ?_
  refine RunT.ot0 (x := .v (.bool (decide (a0 = a1)))) rfl rfl rfl rfl (.binA (us := us_Record (a0)) (vs := us_Record (a1)) rfl rfl (fun w => eq_Record (a0) (a1) w) rfl) ?_
  refine RunT.ot0 (x := .v (.bool (decide (a0 = a1)))) rfl rfl rfl rfl (.assignX rfl) ?_
  refine RunT.nil ?_
  obtain rfl := si H
  refine T.sub (sub_to (st' := ⟨[(4, .v (.bool (decide (a0 = a1))))], [], 8, []⟩) [] (by decide) rfl rfl (⟨⟨_, rfl, .one .v⟩, trivial⟩) (trivial)) ?_
  refine T.ret ?_
  exact RetOk.same [.v (.bool (decide (a0 = a1)))] ⟨rfl, trivial⟩ rfl rfl rfl
end Go.Proofs.Ytijfhnpmdhonhaa
