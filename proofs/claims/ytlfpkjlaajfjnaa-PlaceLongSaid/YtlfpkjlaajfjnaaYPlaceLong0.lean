/- The Go functions come to just what their plain forms come to: one contract each. -/
import Derived.Test.YtlfpkjlaajfjnaaE
set_option linter.unusedVariables false
set_option linter.unusedSimpArgs false
set_option maxRecDepth 100000
namespace Go.Proofs.Ytlfpkjlaajfjnaa
open Go Go.Sh Go.Px
attribute [local irreducible] Go.Sh.T Go.Sh.RunT Go.Sh.RunD
set_option maxHeartbeats 4000000 in
theorem law3_Few_pc (al : Bool) (k : Nat) (a0 : Venue) (o : Bool) (H : law3_Few k a0 = some o) : PC Try.prog al 28 [.agg [.lst (List.map eSeat a0.Seats), .v (.int .i64 a0.Gap), .v (.int .i64 a0.Radius), .lst (List.map eI a0.Kills), .lst (List.map ePole a0.Poles)]] (.v (.bool o)) := by
  unfold law3_Few at H
  refine PC.of_T Try.func28 rfl rfl (n := 19) rfl rfl (.inr rfl) ?_
  intro base B w0
  refine T.st (st' := ⟨[(0, .agg [.lst (List.map eSeat a0.Seats), .v (.int .i64 a0.Gap), .v (.int .i64 a0.Radius), .lst (List.map eI a0.Kills), .lst (List.map ePole a0.Poles)])], [], 0, []⟩) rfl ?_
  refine T.seq ?_
  refine T.region ?_
  refine RunT.ot1 (x := .ptr 0 0) (p0 := (0, some (.box [.lst (List.map eSeat a0.Seats), .v (.int .i64 a0.Gap), .v (.int .i64 a0.Radius), .lst (List.map eI a0.Kills), .lst (List.map ePole a0.Poles)]))) (n' := 8) rfl rfl rfl rfl (.boxX rfl rfl rfl) rfl ?_
  refine RunT.ot0 (x := .v (.bool false)) rfl rfl rfl rfl (.assignX rfl) ?_
  refine RunT.nil ?_
  refine T.seq ?_
  refine T.region ?_
  refine RunT.ot0 (x := .ptr 0 0) rfl rfl rfl rfl (.fieldPX fl26_0 rfl rfl) ?_
  refine RunT.ot0 (x := .lst (List.map eSeat a0.Seats)) rfl rfl rfl rfl (.loadP ty22 rfl rfl rfl) ?_
  refine RunT.ot0 (x := .v (.int .i64 (a0.Seats.length : Int))) rfl rfl rfl rfl (.lenLm Try.underlying22 rfl rfl) ?_
  refine RunT.ot0 (x := .v (.bool (decide ((a0.Seats.length : Int) ≤ 40)))) rfl rfl rfl rfl (.bin rfl rfl (fun w => b_leq w) rfl) ?_
  refine RunT.ot0 (x := .v (.bool (decide ((a0.Seats.length : Int) ≤ 40)))) rfl rfl rfl rfl (.moveX rfl) ?_
  refine RunT.cases (t := 7) (c := decide ((a0.Seats.length : Int) ≤ 40)) rfl (fun g1 => ?_) (fun g1 => ?_)
  · replace H := ct H g1
    refine RunT.gt0 (x := .ptr 0 3) rfl rfl rfl (bo g1) rfl rfl (.fieldPX fl26_3 rfl rfl) ?_
    refine RunT.gt0 (x := .lst (List.map eI a0.Kills)) rfl rfl rfl (bo g1) rfl rfl (.loadP ty23 rfl rfl rfl) ?_
    refine RunT.gt0 (x := .v (.int .i64 (a0.Kills.length : Int))) rfl rfl rfl (bo g1) rfl rfl (.lenLm Try.underlying23 rfl rfl) ?_
    refine RunT.gt0 (x := .v (.bool (decide ((a0.Kills.length : Int) ≤ 40)))) rfl rfl rfl (bo g1) rfl rfl (.bin rfl rfl (fun w => b_leq w) rfl) ?_
    refine RunT.ot0 (x := .v (.bool (decide ((a0.Kills.length : Int) ≤ 40)))) rfl rfl rfl rfl (.pickT (bo g1) rfl) ?_
    refine RunT.ot0 (x := .v (.bool (decide ((a0.Kills.length : Int) ≤ 40)))) rfl rfl rfl rfl (.moveX rfl) ?_
    refine RunT.cases (t := 13) (c := decide ((a0.Kills.length : Int) ≤ 40)) rfl (fun g2 => ?_) (fun g2 => ?_)
    · replace H := ct H g2
      refine RunT.gt0 (x := .ptr 0 4) rfl rfl rfl (bo g2) rfl rfl (.fieldPX fl26_4 rfl rfl) ?_
      refine RunT.gt0 (x := .lst (List.map ePole a0.Poles)) rfl rfl rfl (bo g2) rfl rfl (.loadP ty24 rfl rfl rfl) ?_
      refine RunT.gt0 (x := .v (.int .i64 (a0.Poles.length : Int))) rfl rfl rfl (bo g2) rfl rfl (.lenLm Try.underlying24 rfl rfl) ?_
      refine RunT.gt0 (x := .v (.bool (decide ((a0.Poles.length : Int) ≤ 40)))) rfl rfl rfl (bo g2) rfl rfl (.bin rfl rfl (fun w => b_leq w) rfl) ?_
      refine RunT.ot0 (x := .v (.bool (decide ((a0.Poles.length : Int) ≤ 40)))) rfl rfl rfl rfl (.pickT (bo g2) rfl) ?_
      refine RunT.ot0 (x := .v (.bool (decide ((a0.Poles.length : Int) ≤ 40)))) rfl rfl rfl rfl (.assignX rfl) ?_
      refine RunT.nil ?_
      obtain rfl := si H
      refine T.sub (sub_to (st' := ⟨[(2, .v (.bool (decide ((a0.Poles.length : Int) ≤ 40))))], [], 8, []⟩) [] (by decide) rfl rfl (⟨⟨_, rfl, .one .v⟩, trivial⟩) (trivial)) ?_
      refine T.ret ?_
      exact RetOk.same [.v (.bool (decide ((a0.Poles.length : Int) ≤ 40)))] ⟨rfl, trivial⟩ rfl rfl rfl
    · replace H := cf H g2
      refine RunT.xn rfl rfl rfl (bo g2) rfl rfl ?_
      refine RunT.xn rfl rfl rfl (bo g2) rfl rfl ?_
      refine RunT.xn rfl rfl rfl (bo g2) rfl rfl ?_
      refine RunT.xn rfl rfl rfl (bo g2) rfl rfl ?_
      refine RunT.ot0 (x := .v (.bool false)) rfl rfl rfl rfl (.pickF (bo g2) rfl) ?_
      refine RunT.ot0 (x := .v (.bool false)) rfl rfl rfl rfl (.assignX rfl) ?_
      refine RunT.nil ?_
      obtain rfl := si H
      refine T.sub (sub_to (st' := ⟨[(2, .v (.bool false))], [], 8, []⟩) [] (by decide) rfl rfl (⟨⟨_, rfl, .one .v⟩, trivial⟩) (trivial)) ?_
      refine T.ret ?_
      exact RetOk.same [.v (.bool false)] ⟨rfl, trivial⟩ rfl rfl rfl
  · replace H := cf H g1
    refine RunT.xn rfl rfl rfl (bo g1) rfl rfl ?_
    refine RunT.xn rfl rfl rfl (bo g1) rfl rfl ?_
    refine RunT.xn rfl rfl rfl (bo g1) rfl rfl ?_
    refine RunT.xn rfl rfl rfl (bo g1) rfl rfl ?_
    refine RunT.ot0 (x := .v (.bool false)) rfl rfl rfl rfl (.pickF (bo g1) rfl) ?_
    refine RunT.ot0 (x := .v (.bool false)) rfl rfl rfl rfl (.moveX rfl) ?_
    refine RunT.xn rfl rfl rfl rfl rfl rfl ?_
    refine RunT.xn rfl rfl rfl rfl rfl rfl ?_
    refine RunT.xn rfl rfl rfl rfl rfl rfl ?_
    refine RunT.xn rfl rfl rfl rfl rfl rfl ?_
    refine RunT.ot0 (x := .v (.bool false)) rfl rfl rfl rfl (.pickF rfl rfl) ?_
    refine RunT.ot0 (x := .v (.bool false)) rfl rfl rfl rfl (.assignX rfl) ?_
    refine RunT.nil ?_
    obtain rfl := si H
    refine T.sub (sub_to (st' := ⟨[(2, .v (.bool false))], [], 8, []⟩) [] (by decide) rfl rfl (⟨⟨_, rfl, .one .v⟩, trivial⟩) (trivial)) ?_
    refine T.ret ?_
    exact RetOk.same [.v (.bool false)] ⟨rfl, trivial⟩ rfl rfl rfl
set_option maxHeartbeats 4000000 in
theorem venue_in_pc (al : Bool) (k : Nat) (a0 : Int) (a1 : Int) (a2 : Int) (o : Bool) (H : venue_in k a0 a1 a2 = some o) : PC Try.prog al 130 [.v (.int .i64 a0), .v (.int .i64 a1), .v (.int .i64 a2)] (.v (.bool o)) := by
  unfold venue_in at H
  refine PC.of_T Try.func130 rfl rfl (n := 15) rfl rfl (.inr rfl) ?_
  intro base B w0
  refine T.st (st' := ⟨[(0, .v (.int .i64 a0)), (1, .v (.int .i64 a1)), (2, .v (.int .i64 a2))], [], 0, []⟩) rfl ?_
  refine T.seq ?_
  refine T.region ?_
  refine RunT.ot0 (x := .v (.bool false)) rfl rfl rfl rfl (.assignX rfl) ?_
  refine RunT.nil ?_
  refine T.seq ?_
  refine T.region ?_
  refine RunT.ot0 (x := .v (.int .i64 a0)) rfl rfl rfl rfl (.moveX rfl) ?_
  refine RunT.ot0 (x := .v (.int .i64 a1)) rfl rfl rfl rfl (.moveX rfl) ?_
  refine RunT.ot0 (x := .v (.bool (decide (a1 ≤ a0)))) rfl rfl rfl rfl (.bin rfl rfl (fun w => b_geq w) rfl) ?_
  refine RunT.ot0 (x := .v (.bool (decide (a1 ≤ a0)))) rfl rfl rfl rfl (.moveX rfl) ?_
  refine RunT.cases (t := 10) (c := decide (a1 ≤ a0)) rfl (fun g1 => ?_) (fun g1 => ?_)
  · replace H := ct H g1
    refine RunT.gt0 (x := .v (.int .i64 a0)) rfl rfl rfl (bo g1) rfl rfl (.moveX rfl) ?_
    refine RunT.gt0 (x := .v (.int .i64 a2)) rfl rfl rfl (bo g1) rfl rfl (.moveX rfl) ?_
    refine RunT.gt0 (x := .v (.bool (decide (a0 ≤ a2)))) rfl rfl rfl (bo g1) rfl rfl (.bin rfl rfl (fun w => b_leq w) rfl) ?_
    refine RunT.ot0 (x := .v (.bool (decide (a0 ≤ a2)))) rfl rfl rfl rfl (.pickT (bo g1) rfl) ?_
    refine RunT.ot0 (x := .v (.bool (decide (a0 ≤ a2)))) rfl rfl rfl rfl (.assignX rfl) ?_
    refine RunT.nil ?_
    obtain rfl := si H
    refine T.sub (sub_to (st' := ⟨[(6, .v (.bool (decide (a0 ≤ a2))))], [], 8, []⟩) [] (by decide) rfl rfl (⟨⟨_, rfl, .one .v⟩, trivial⟩) (trivial)) ?_
    refine T.ret ?_
    exact RetOk.same [.v (.bool (decide (a0 ≤ a2)))] ⟨rfl, trivial⟩ rfl rfl rfl
  · replace H := cf H g1
    refine RunT.xn rfl rfl rfl (bo g1) rfl rfl ?_
    refine RunT.xn rfl rfl rfl (bo g1) rfl rfl ?_
    refine RunT.xn rfl rfl rfl (bo g1) rfl rfl ?_
    refine RunT.ot0 (x := .v (.bool false)) rfl rfl rfl rfl (.pickF (bo g1) rfl) ?_
    refine RunT.ot0 (x := .v (.bool false)) rfl rfl rfl rfl (.assignX rfl) ?_
    refine RunT.nil ?_
    obtain rfl := si H
    refine T.sub (sub_to (st' := ⟨[(6, .v (.bool false))], [], 8, []⟩) [] (by decide) rfl rfl (⟨⟨_, rfl, .one .v⟩, trivial⟩) (trivial)) ?_
    refine T.ret ?_
    exact RetOk.same [.v (.bool false)] ⟨rfl, trivial⟩ rfl rfl rfl
set_option maxHeartbeats 4000000 in
theorem venue_Reach_pc (al : Bool) (k : Nat) (a0 : Int) (o : Bool) (H : venue_Reach k a0 = some o) : PC Try.prog al 95 [.v (.int .i64 a0)] (.v (.bool o)) := by
  unfold venue_Reach at H
  refine PC.of_T Try.func95 rfl rfl (n := 5) rfl rfl (.inr rfl) ?_
  intro base B w0
  refine T.st (st' := ⟨[(0, .v (.int .i64 a0))], [], 0, []⟩) rfl ?_
  refine T.seq ?_
  refine T.region ?_
  refine RunT.ot0 (x := .v (.bool false)) rfl rfl rfl rfl (.assignX rfl) ?_
  refine RunT.nil ?_
  refine T.seq ?_
  refine T.region ?_
  refine RunT.ot0 (x := .v (.int .i64 a0)) rfl rfl rfl rfl (.moveX rfl) ?_
  obtain ⟨r1, h2, H⟩ := bs H
  refine RunT.ot0 (x := .v (.bool r1)) rfl rfl rfl rfl (.callp (venue_in_pc false k a0 1 1048576 r1 h2) rfl ⟨(.one .v), (.one .v), (.one .v), trivial⟩ rfl rfl rfl) ?_
  refine RunT.ot0 (x := .v (.bool r1)) rfl rfl rfl rfl (.assignX rfl) ?_
  refine RunT.nil ?_
  obtain rfl := si H
  refine T.sub (sub_to (st' := ⟨[(2, .v (.bool r1))], [], 8, []⟩) [] (by decide) rfl rfl (⟨⟨_, rfl, .one .v⟩, trivial⟩) (trivial)) ?_
  refine T.ret ?_
  exact RetOk.same [.v (.bool r1)] ⟨rfl, trivial⟩ rfl rfl rfl
set_option maxHeartbeats 4000000 in
theorem venue_Coord_pc (al : Bool) (k : Nat) (a0 : Int) (o : Bool) (H : venue_Coord k a0 = some o) : PC Try.prog al 88 [.v (.int .i64 a0)] (.v (.bool o)) := by
  unfold venue_Coord at H
  refine PC.of_T Try.func88 rfl rfl (n := 5) rfl rfl (.inr rfl) ?_
  intro base B w0
  refine T.st (st' := ⟨[(0, .v (.int .i64 a0))], [], 0, []⟩) rfl ?_
  refine T.seq ?_
  refine T.region ?_
  refine RunT.ot0 (x := .v (.bool false)) rfl rfl rfl rfl (.assignX rfl) ?_
  refine RunT.nil ?_
  refine T.seq ?_
  refine T.region ?_
  refine RunT.ot0 (x := .v (.int .i64 a0)) rfl rfl rfl rfl (.moveX rfl) ?_
  obtain ⟨r1, h2, H⟩ := bs H
  refine RunT.ot0 (x := .v (.bool r1)) rfl rfl rfl rfl (.callp (venue_in_pc false k a0 (-1048576) 1048576 r1 h2) rfl ⟨(.one .v), (.one .v), (.one .v), trivial⟩ rfl rfl rfl) ?_
  refine RunT.ot0 (x := .v (.bool r1)) rfl rfl rfl rfl (.assignX rfl) ?_
  refine RunT.nil ?_
  obtain rfl := si H
  refine T.sub (sub_to (st' := ⟨[(2, .v (.bool r1))], [], 8, []⟩) [] (by decide) rfl rfl (⟨⟨_, rfl, .one .v⟩, trivial⟩) (trivial)) ?_
  refine T.ret ?_
  exact RetOk.same [.v (.bool r1)] ⟨rfl, trivial⟩ rfl rfl rfl
set_option maxHeartbeats 4000000 in
theorem venue_Row_pc (al : Bool) (k : Nat) (a0 : Int) (o : Bool) (H : venue_Row k a0 = some o) : PC Try.prog al 162 [.v (.int .i64 a0)] (.v (.bool o)) := by
  unfold venue_Row at H
  refine PC.of_T Try.func162 rfl rfl (n := 5) rfl rfl (.inr rfl) ?_
  intro base B w0
  refine T.st (st' := ⟨[(0, .v (.int .i64 a0))], [], 0, []⟩) rfl ?_
  refine T.seq ?_
  refine T.region ?_
  refine RunT.ot0 (x := .v (.bool false)) rfl rfl rfl rfl (.assignX rfl) ?_
  refine RunT.nil ?_
  refine T.seq ?_
  refine T.region ?_
  refine RunT.ot0 (x := .v (.int .i64 a0)) rfl rfl rfl rfl (.moveX rfl) ?_
  obtain ⟨r1, h2, H⟩ := bs H
  refine RunT.ot0 (x := .v (.bool r1)) rfl rfl rfl rfl (.callp (venue_in_pc false k a0 0 999 r1 h2) rfl ⟨(.one .v), (.one .v), (.one .v), trivial⟩ rfl rfl rfl) ?_
  refine RunT.ot0 (x := .v (.bool r1)) rfl rfl rfl rfl (.assignX rfl) ?_
  refine RunT.nil ?_
  obtain rfl := si H
  refine T.sub (sub_to (st' := ⟨[(2, .v (.bool r1))], [], 8, []⟩) [] (by decide) rfl rfl (⟨⟨_, rfl, .one .v⟩, trivial⟩) (trivial)) ?_
  refine T.ret ?_
  exact RetOk.same [.v (.bool r1)] ⟨rfl, trivial⟩ rfl rfl rfl
set_option maxHeartbeats 4000000 in
theorem venue_seat_pc (al : Bool) (k : Nat) (a0 : Seat) (o : Bool) (H : venue_seat k a0 = some o) : PC Try.prog al 160 [.agg [.v (.int .i64 a0.Row), .v (.int .i64 a0.X), .v (.int .i64 a0.Y), .v (.int .i64 a0.Kind)]] (.v (.bool o)) := by
  unfold venue_seat at H
  refine PC.of_T Try.func160 rfl rfl (n := 24) rfl rfl (.inr rfl) ?_
  intro base B w0
  refine T.st (st' := ⟨[(0, .agg [.v (.int .i64 a0.Row), .v (.int .i64 a0.X), .v (.int .i64 a0.Y), .v (.int .i64 a0.Kind)])], [], 0, []⟩) rfl ?_
  refine T.seq ?_
  refine T.region ?_
  refine RunT.ot1 (x := .ptr 0 0) (p0 := (0, some (.box [.v (.int .i64 a0.Row), .v (.int .i64 a0.X), .v (.int .i64 a0.Y), .v (.int .i64 a0.Kind)]))) (n' := 8) rfl rfl rfl rfl (.boxX rfl rfl rfl) rfl ?_
  refine RunT.ot0 (x := .v (.bool false)) rfl rfl rfl rfl (.assignX rfl) ?_
  refine RunT.nil ?_
  refine T.seq ?_
  refine T.seq ?_
  refine T.region ?_
  refine RunT.ot0 (x := .ptr 0 3) rfl rfl rfl rfl (.fieldPX fl28_3 rfl rfl) ?_
  refine RunT.ot0 (x := .v (.int .i64 a0.Kind)) rfl rfl rfl rfl (.loadP ty3 rfl rfl rfl) ?_
  refine RunT.nil ?_
  refine T.block ?_
  refine T.seq ?_
  refine T.block ?_
  refine T.block ?_
  refine T.block ?_
  refine T.seq ?_
  refine T.seq ?_
  refine T.seq ?_
  refine T.region ?_
  refine RunT.ot0 (x := .v (.bool (decide (a0.Kind = 0)))) rfl rfl rfl rfl (.bin rfl rfl (fun w => b_eql w) rfl) ?_
  refine RunT.ot0 (x := .v (.bool (decide (a0.Kind = 0)))) rfl rfl rfl rfl (.assignX rfl) ?_
  refine RunT.nil ?_
  refine T.cond2 (t := decide (a0.Kind = 0)) rfl (fun c1 => ?_) (fun c1 => ?_)
  · replace H := ct H c1
    refine T.exit ?_
    refine T.seq ?_
    refine T.seq ?_
    refine T.region ?_
    refine RunT.ot0 (x := .ptr 0 0) rfl rfl rfl rfl (.fieldPX fl28_0 rfl rfl) ?_
    refine RunT.ot0 (x := .v (.int .i64 a0.Row)) rfl rfl rfl rfl (.loadP ty3 rfl rfl rfl) ?_
    obtain ⟨r2, h3, H⟩ := bs H
    refine RunT.ot0 (x := .v (.bool r2)) rfl rfl rfl rfl (.callp (venue_Row_pc false k a0.Row r2 h3) rfl ⟨(.one .v), trivial⟩ rfl rfl rfl) ?_
    refine RunT.ot0 (x := .v (.bool r2)) rfl rfl rfl rfl (.moveX rfl) ?_
    refine RunT.cases (t := 14) (c := r2) rfl (fun g4 => ?_) (fun g4 => ?_)
    · replace H := ct H g4
      refine RunT.gt0 (x := .ptr 0 1) rfl rfl rfl (bo g4) rfl rfl (.fieldPX fl28_1 rfl rfl) ?_
      refine RunT.gt0 (x := .v (.int .i64 a0.X)) rfl rfl rfl (bo g4) rfl rfl (.loadP ty3 rfl rfl rfl) ?_
      obtain ⟨r5, h6, H⟩ := bs H
      refine RunT.gt0 (x := .v (.bool r5)) rfl rfl rfl (bo g4) rfl rfl (.callp (venue_Coord_pc false k a0.X r5 h6) rfl ⟨(.one .v), trivial⟩ rfl rfl rfl) ?_
      refine RunT.ot0 (x := .v (.bool r5)) rfl rfl rfl rfl (.pickT (bo g4) rfl) ?_
      refine RunT.ot0 (x := .v (.bool r5)) rfl rfl rfl rfl (.moveX rfl) ?_
      refine RunT.cases (t := 19) (c := r5) rfl (fun g7 => ?_) (fun g7 => ?_)
      · replace H := ct H g7
        refine RunT.gt0 (x := .ptr 0 2) rfl rfl rfl (bo g7) rfl rfl (.fieldPX fl28_2 rfl rfl) ?_
        refine RunT.gt0 (x := .v (.int .i64 a0.Y)) rfl rfl rfl (bo g7) rfl rfl (.loadP ty3 rfl rfl rfl) ?_
        obtain ⟨r8, h9, H⟩ := bs H
        refine RunT.gt0 (x := .v (.bool r8)) rfl rfl rfl (bo g7) rfl rfl (.callp (venue_Coord_pc false k a0.Y r8 h9) rfl ⟨(.one .v), trivial⟩ rfl rfl rfl) ?_
        refine RunT.ot0 (x := .v (.bool r8)) rfl rfl rfl rfl (.pickT (bo g7) rfl) ?_
        refine RunT.ot0 (x := .v (.bool r8)) rfl rfl rfl rfl (.assignX rfl) ?_
        refine RunT.nil ?_
        obtain rfl := si H
        refine T.sub (sub_to (st' := ⟨[(2, .v (.bool r8))], [], 8, []⟩) [] (by decide) rfl rfl (⟨⟨_, rfl, .one .v⟩, trivial⟩) (trivial)) ?_
        refine T.ret ?_
        exact RetOk.same [.v (.bool r8)] ⟨rfl, trivial⟩ rfl rfl rfl
      · replace H := cf H g7
        refine RunT.xn rfl rfl rfl (bo g7) rfl rfl ?_
        refine RunT.xn rfl rfl rfl (bo g7) rfl rfl ?_
        refine RunT.xn rfl rfl rfl (bo g7) rfl rfl ?_
        refine RunT.ot0 (x := .v (.bool false)) rfl rfl rfl rfl (.pickF (bo g7) rfl) ?_
        refine RunT.ot0 (x := .v (.bool false)) rfl rfl rfl rfl (.assignX rfl) ?_
        refine RunT.nil ?_
        obtain rfl := si H
        refine T.sub (sub_to (st' := ⟨[(2, .v (.bool false))], [], 8, []⟩) [] (by decide) rfl rfl (⟨⟨_, rfl, .one .v⟩, trivial⟩) (trivial)) ?_
        refine T.ret ?_
        exact RetOk.same [.v (.bool false)] ⟨rfl, trivial⟩ rfl rfl rfl
    · replace H := cf H g4
      refine RunT.xn rfl rfl rfl (bo g4) rfl rfl ?_
      refine RunT.xn rfl rfl rfl (bo g4) rfl rfl ?_
      refine RunT.xn rfl rfl rfl (bo g4) rfl rfl ?_
      refine RunT.ot0 (x := .v (.bool false)) rfl rfl rfl rfl (.pickF (bo g4) rfl) ?_
      refine RunT.ot0 (x := .v (.bool false)) rfl rfl rfl rfl (.moveX rfl) ?_
      refine RunT.xn rfl rfl rfl rfl rfl rfl ?_
      refine RunT.xn rfl rfl rfl rfl rfl rfl ?_
      refine RunT.xn rfl rfl rfl rfl rfl rfl ?_
      refine RunT.ot0 (x := .v (.bool false)) rfl rfl rfl rfl (.pickF rfl rfl) ?_
      refine RunT.ot0 (x := .v (.bool false)) rfl rfl rfl rfl (.assignX rfl) ?_
      refine RunT.nil ?_
      obtain rfl := si H
      refine T.sub (sub_to (st' := ⟨[(2, .v (.bool false))], [], 8, []⟩) [] (by decide) rfl rfl (⟨⟨_, rfl, .one .v⟩, trivial⟩) (trivial)) ?_
      refine T.ret ?_
      exact RetOk.same [.v (.bool false)] ⟨rfl, trivial⟩ rfl rfl rfl
  · replace H := cf H c1
    refine T.skip ?_
    refine T.seq ?_
    refine T.seq ?_
    refine T.sub (sub_pick [1, 4] [0] (st' := ⟨[(1, .ptr 0 0), (4, .v (.int .i64 a0.Kind))], [(0, some (.box [.v (.int .i64 a0.Row), .v (.int .i64 a0.X), .v (.int .i64 a0.Y), .v (.int .i64 a0.Kind)]))], 8, []⟩) rfl rfl rfl rfl rfl) ?_
    refine T.region ?_
    refine RunT.ot0 (x := .v (.bool (decide (a0.Kind = 1)))) rfl rfl rfl rfl (.bin rfl rfl (fun w => b_eql w) rfl) ?_
    refine RunT.ot0 (x := .v (.bool (decide (a0.Kind = 1)))) rfl rfl rfl rfl (.assignX rfl) ?_
    refine RunT.nil ?_
    refine T.cond2 (t := decide (a0.Kind = 1)) rfl (fun c10 => ?_) (fun c10 => ?_)
    · replace H := ct H c10
      refine T.exit ?_
      refine T.seq ?_
      refine T.seq ?_
      refine T.region ?_
      refine RunT.ot0 (x := .ptr 0 0) rfl rfl rfl rfl (.fieldPX fl28_0 rfl rfl) ?_
      refine RunT.ot0 (x := .v (.int .i64 a0.Row)) rfl rfl rfl rfl (.loadP ty3 rfl rfl rfl) ?_
      obtain ⟨r11, h12, H⟩ := bs H
      refine RunT.ot0 (x := .v (.bool r11)) rfl rfl rfl rfl (.callp (venue_Row_pc false k a0.Row r11 h12) rfl ⟨(.one .v), trivial⟩ rfl rfl rfl) ?_
      refine RunT.ot0 (x := .v (.bool r11)) rfl rfl rfl rfl (.moveX rfl) ?_
      refine RunT.cases (t := 14) (c := r11) rfl (fun g13 => ?_) (fun g13 => ?_)
      · replace H := ct H g13
        refine RunT.gt0 (x := .ptr 0 1) rfl rfl rfl (bo g13) rfl rfl (.fieldPX fl28_1 rfl rfl) ?_
        refine RunT.gt0 (x := .v (.int .i64 a0.X)) rfl rfl rfl (bo g13) rfl rfl (.loadP ty3 rfl rfl rfl) ?_
        obtain ⟨r14, h15, H⟩ := bs H
        refine RunT.gt0 (x := .v (.bool r14)) rfl rfl rfl (bo g13) rfl rfl (.callp (venue_Coord_pc false k a0.X r14 h15) rfl ⟨(.one .v), trivial⟩ rfl rfl rfl) ?_
        refine RunT.ot0 (x := .v (.bool r14)) rfl rfl rfl rfl (.pickT (bo g13) rfl) ?_
        refine RunT.ot0 (x := .v (.bool r14)) rfl rfl rfl rfl (.moveX rfl) ?_
        refine RunT.cases (t := 19) (c := r14) rfl (fun g16 => ?_) (fun g16 => ?_)
        · replace H := ct H g16
          refine RunT.gt0 (x := .ptr 0 2) rfl rfl rfl (bo g16) rfl rfl (.fieldPX fl28_2 rfl rfl) ?_
          refine RunT.gt0 (x := .v (.int .i64 a0.Y)) rfl rfl rfl (bo g16) rfl rfl (.loadP ty3 rfl rfl rfl) ?_
          obtain ⟨r17, h18, H⟩ := bs H
          refine RunT.gt0 (x := .v (.bool r17)) rfl rfl rfl (bo g16) rfl rfl (.callp (venue_Coord_pc false k a0.Y r17 h18) rfl ⟨(.one .v), trivial⟩ rfl rfl rfl) ?_
          refine RunT.ot0 (x := .v (.bool r17)) rfl rfl rfl rfl (.pickT (bo g16) rfl) ?_
          refine RunT.ot0 (x := .v (.bool r17)) rfl rfl rfl rfl (.assignX rfl) ?_
          refine RunT.nil ?_
          obtain rfl := si H
          refine T.sub (sub_to (st' := ⟨[(2, .v (.bool r17))], [], 8, []⟩) [] (by decide) rfl rfl (⟨⟨_, rfl, .one .v⟩, trivial⟩) (trivial)) ?_
          refine T.ret ?_
          exact RetOk.same [.v (.bool r17)] ⟨rfl, trivial⟩ rfl rfl rfl
        · replace H := cf H g16
          refine RunT.xn rfl rfl rfl (bo g16) rfl rfl ?_
          refine RunT.xn rfl rfl rfl (bo g16) rfl rfl ?_
          refine RunT.xn rfl rfl rfl (bo g16) rfl rfl ?_
          refine RunT.ot0 (x := .v (.bool false)) rfl rfl rfl rfl (.pickF (bo g16) rfl) ?_
          refine RunT.ot0 (x := .v (.bool false)) rfl rfl rfl rfl (.assignX rfl) ?_
          refine RunT.nil ?_
          obtain rfl := si H
          refine T.sub (sub_to (st' := ⟨[(2, .v (.bool false))], [], 8, []⟩) [] (by decide) rfl rfl (⟨⟨_, rfl, .one .v⟩, trivial⟩) (trivial)) ?_
          refine T.ret ?_
          exact RetOk.same [.v (.bool false)] ⟨rfl, trivial⟩ rfl rfl rfl
      · replace H := cf H g13
        refine RunT.xn rfl rfl rfl (bo g13) rfl rfl ?_
        refine RunT.xn rfl rfl rfl (bo g13) rfl rfl ?_
        refine RunT.xn rfl rfl rfl (bo g13) rfl rfl ?_
        refine RunT.ot0 (x := .v (.bool false)) rfl rfl rfl rfl (.pickF (bo g13) rfl) ?_
        refine RunT.ot0 (x := .v (.bool false)) rfl rfl rfl rfl (.moveX rfl) ?_
        refine RunT.xn rfl rfl rfl rfl rfl rfl ?_
        refine RunT.xn rfl rfl rfl rfl rfl rfl ?_
        refine RunT.xn rfl rfl rfl rfl rfl rfl ?_
        refine RunT.ot0 (x := .v (.bool false)) rfl rfl rfl rfl (.pickF rfl rfl) ?_
        refine RunT.ot0 (x := .v (.bool false)) rfl rfl rfl rfl (.assignX rfl) ?_
        refine RunT.nil ?_
        obtain rfl := si H
        refine T.sub (sub_to (st' := ⟨[(2, .v (.bool false))], [], 8, []⟩) [] (by decide) rfl rfl (⟨⟨_, rfl, .one .v⟩, trivial⟩) (trivial)) ?_
        refine T.ret ?_
        exact RetOk.same [.v (.bool false)] ⟨rfl, trivial⟩ rfl rfl rfl
    · replace H := cf H c10
      refine T.skip ?_
      refine T.seq ?_
      refine T.sub (sub_pick [1, 4] [0] (st' := ⟨[(1, .ptr 0 0), (4, .v (.int .i64 a0.Kind))], [(0, some (.box [.v (.int .i64 a0.Row), .v (.int .i64 a0.X), .v (.int .i64 a0.Y), .v (.int .i64 a0.Kind)]))], 8, []⟩) rfl rfl rfl rfl rfl) ?_
      refine T.region ?_
      refine RunT.ot0 (x := .v (.bool (decide (a0.Kind = 2)))) rfl rfl rfl rfl (.bin rfl rfl (fun w => b_eql w) rfl) ?_
      refine RunT.ot0 (x := .v (.bool (decide (a0.Kind = 2)))) rfl rfl rfl rfl (.assignX rfl) ?_
      refine RunT.nil ?_
      refine T.cond2 (t := decide (a0.Kind = 2)) rfl (fun c19 => ?_) (fun c19 => ?_)
      · replace H := ct H c19
        refine T.exit ?_
        refine T.seq ?_
        refine T.seq ?_
        refine T.region ?_
        refine RunT.ot0 (x := .ptr 0 0) rfl rfl rfl rfl (.fieldPX fl28_0 rfl rfl) ?_
        refine RunT.ot0 (x := .v (.int .i64 a0.Row)) rfl rfl rfl rfl (.loadP ty3 rfl rfl rfl) ?_
        obtain ⟨r20, h21, H⟩ := bs H
        refine RunT.ot0 (x := .v (.bool r20)) rfl rfl rfl rfl (.callp (venue_Row_pc false k a0.Row r20 h21) rfl ⟨(.one .v), trivial⟩ rfl rfl rfl) ?_
        refine RunT.ot0 (x := .v (.bool r20)) rfl rfl rfl rfl (.moveX rfl) ?_
        refine RunT.cases (t := 14) (c := r20) rfl (fun g22 => ?_) (fun g22 => ?_)
        · replace H := ct H g22
          refine RunT.gt0 (x := .ptr 0 1) rfl rfl rfl (bo g22) rfl rfl (.fieldPX fl28_1 rfl rfl) ?_
          refine RunT.gt0 (x := .v (.int .i64 a0.X)) rfl rfl rfl (bo g22) rfl rfl (.loadP ty3 rfl rfl rfl) ?_
          obtain ⟨r23, h24, H⟩ := bs H
          refine RunT.gt0 (x := .v (.bool r23)) rfl rfl rfl (bo g22) rfl rfl (.callp (venue_Coord_pc false k a0.X r23 h24) rfl ⟨(.one .v), trivial⟩ rfl rfl rfl) ?_
          refine RunT.ot0 (x := .v (.bool r23)) rfl rfl rfl rfl (.pickT (bo g22) rfl) ?_
          refine RunT.ot0 (x := .v (.bool r23)) rfl rfl rfl rfl (.moveX rfl) ?_
          refine RunT.cases (t := 19) (c := r23) rfl (fun g25 => ?_) (fun g25 => ?_)
          · replace H := ct H g25
            refine RunT.gt0 (x := .ptr 0 2) rfl rfl rfl (bo g25) rfl rfl (.fieldPX fl28_2 rfl rfl) ?_
            refine RunT.gt0 (x := .v (.int .i64 a0.Y)) rfl rfl rfl (bo g25) rfl rfl (.loadP ty3 rfl rfl rfl) ?_
            obtain ⟨r26, h27, H⟩ := bs H
            refine RunT.gt0 (x := .v (.bool r26)) rfl rfl rfl (bo g25) rfl rfl (.callp (venue_Coord_pc false k a0.Y r26 h27) rfl ⟨(.one .v), trivial⟩ rfl rfl rfl) ?_
            refine RunT.ot0 (x := .v (.bool r26)) rfl rfl rfl rfl (.pickT (bo g25) rfl) ?_
            refine RunT.ot0 (x := .v (.bool r26)) rfl rfl rfl rfl (.assignX rfl) ?_
            refine RunT.nil ?_
            obtain rfl := si H
            refine T.sub (sub_to (st' := ⟨[(2, .v (.bool r26))], [], 8, []⟩) [] (by decide) rfl rfl (⟨⟨_, rfl, .one .v⟩, trivial⟩) (trivial)) ?_
            refine T.ret ?_
            exact RetOk.same [.v (.bool r26)] ⟨rfl, trivial⟩ rfl rfl rfl
          · replace H := cf H g25
            refine RunT.xn rfl rfl rfl (bo g25) rfl rfl ?_
            refine RunT.xn rfl rfl rfl (bo g25) rfl rfl ?_
            refine RunT.xn rfl rfl rfl (bo g25) rfl rfl ?_
            refine RunT.ot0 (x := .v (.bool false)) rfl rfl rfl rfl (.pickF (bo g25) rfl) ?_
            refine RunT.ot0 (x := .v (.bool false)) rfl rfl rfl rfl (.assignX rfl) ?_
            refine RunT.nil ?_
            obtain rfl := si H
            refine T.sub (sub_to (st' := ⟨[(2, .v (.bool false))], [], 8, []⟩) [] (by decide) rfl rfl (⟨⟨_, rfl, .one .v⟩, trivial⟩) (trivial)) ?_
            refine T.ret ?_
            exact RetOk.same [.v (.bool false)] ⟨rfl, trivial⟩ rfl rfl rfl
        · replace H := cf H g22
          refine RunT.xn rfl rfl rfl (bo g22) rfl rfl ?_
          refine RunT.xn rfl rfl rfl (bo g22) rfl rfl ?_
          refine RunT.xn rfl rfl rfl (bo g22) rfl rfl ?_
          refine RunT.ot0 (x := .v (.bool false)) rfl rfl rfl rfl (.pickF (bo g22) rfl) ?_
          refine RunT.ot0 (x := .v (.bool false)) rfl rfl rfl rfl (.moveX rfl) ?_
          refine RunT.xn rfl rfl rfl rfl rfl rfl ?_
          refine RunT.xn rfl rfl rfl rfl rfl rfl ?_
          refine RunT.xn rfl rfl rfl rfl rfl rfl ?_
          refine RunT.ot0 (x := .v (.bool false)) rfl rfl rfl rfl (.pickF rfl rfl) ?_
          refine RunT.ot0 (x := .v (.bool false)) rfl rfl rfl rfl (.assignX rfl) ?_
          refine RunT.nil ?_
          obtain rfl := si H
          refine T.sub (sub_to (st' := ⟨[(2, .v (.bool false))], [], 8, []⟩) [] (by decide) rfl rfl (⟨⟨_, rfl, .one .v⟩, trivial⟩) (trivial)) ?_
          refine T.ret ?_
          exact RetOk.same [.v (.bool false)] ⟨rfl, trivial⟩ rfl rfl rfl
      · replace H := cf H c19
        refine T.skip ?_
        refine T.exit ?_
        refine T.seq ?_
        refine T.sub (sub_pick [] [] (st' := ⟨[], [], 8, []⟩) rfl rfl rfl rfl rfl) ?_
        refine T.region ?_
        refine RunT.ot0 (x := .v (.bool false)) rfl rfl rfl rfl (.assignX rfl) ?_
        refine RunT.nil ?_
        obtain rfl := si H
        refine T.sub (sub_to (st' := ⟨[(2, .v (.bool false))], [], 8, []⟩) [] (by decide) rfl rfl (⟨⟨_, rfl, .one .v⟩, trivial⟩) (trivial)) ?_
        refine T.ret ?_
        exact RetOk.same [.v (.bool false)] ⟨rfl, trivial⟩ rfl rfl rfl
set_option maxHeartbeats 4000000 in
theorem venue_Less_pc (al : Bool) (k : Nat) (a0 : Seat) (a1 : Seat) (o : Bool) (H : venue_Less k a0 a1 = some o) : PC Try.prog al 161 [.agg [.v (.int .i64 a0.Row), .v (.int .i64 a0.X), .v (.int .i64 a0.Y), .v (.int .i64 a0.Kind)], .agg [.v (.int .i64 a1.Row), .v (.int .i64 a1.X), .v (.int .i64 a1.Y), .v (.int .i64 a1.Kind)]] (.v (.bool o)) := by
  unfold venue_Less at H
  refine PC.of_T Try.func161 rfl rfl (n := 24) rfl rfl (.inr rfl) ?_
  intro base B w0
  refine T.st (st' := ⟨[(0, .agg [.v (.int .i64 a0.Row), .v (.int .i64 a0.X), .v (.int .i64 a0.Y), .v (.int .i64 a0.Kind)]), (1, .agg [.v (.int .i64 a1.Row), .v (.int .i64 a1.X), .v (.int .i64 a1.Y), .v (.int .i64 a1.Kind)])], [], 0, []⟩) rfl ?_
  refine T.seq ?_
  refine T.region ?_
  refine RunT.ot1 (x := .ptr 0 0) (p0 := (0, some (.box [.v (.int .i64 a0.Row), .v (.int .i64 a0.X), .v (.int .i64 a0.Y), .v (.int .i64 a0.Kind)]))) (n' := 8) rfl rfl rfl rfl (.boxX rfl rfl rfl) rfl ?_
  refine RunT.ot1 (x := .ptr 8 0) (p0 := (8, some (.box [.v (.int .i64 a1.Row), .v (.int .i64 a1.X), .v (.int .i64 a1.Y), .v (.int .i64 a1.Kind)]))) (n' := 16) rfl rfl rfl rfl (.boxX rfl rfl rfl) rfl ?_
  refine RunT.ot0 (x := .v (.bool false)) rfl rfl rfl rfl (.assignX rfl) ?_
  refine RunT.nil ?_
  refine T.seq ?_
  refine T.region ?_
  refine RunT.ot0 (x := .ptr 0 0) rfl rfl rfl rfl (.fieldPX fl28_0 rfl rfl) ?_
  refine RunT.ot0 (x := .v (.int .i64 a0.Row)) rfl rfl rfl rfl (.loadP ty3 rfl rfl rfl) ?_
  refine RunT.ot0 (x := .ptr 8 0) rfl rfl rfl rfl (.fieldPX fl28_0 rfl rfl) ?_
  refine RunT.ot0 (x := .v (.int .i64 a1.Row)) rfl rfl rfl rfl (.loadP ty3 rfl rfl rfl) ?_
  refine RunT.ot0 (x := .v (.bool (decide (a0.Row < a1.Row)))) rfl rfl rfl rfl (.bin rfl rfl (fun w => b_lss w) rfl) ?_
  refine RunT.ot0 (x := .v (.bool (decide (a0.Row < a1.Row)))) rfl rfl rfl rfl (.moveX rfl) ?_
  refine RunT.cases (t := 10) (c := decide (a0.Row < a1.Row)) rfl (fun g1 => ?_) (fun g1 => ?_)
  · replace H := ct H g1
    refine RunT.xn rfl rfl rfl (bo g1) rfl rfl ?_
    refine RunT.xn rfl rfl rfl (bo g1) rfl rfl ?_
    refine RunT.xn rfl rfl rfl (bo g1) rfl rfl ?_
    refine RunT.xn rfl rfl rfl (bo g1) rfl rfl ?_
    refine RunT.xn rfl rfl rfl (bo g1) rfl rfl ?_
    refine RunT.xn rfl rfl rfl (bo g1) rfl rfl ?_
    refine RunT.xu rfl rfl rfl rfl rfl rfl ?_
    refine RunT.xu rfl rfl rfl rfl rfl rfl ?_
    refine RunT.xu rfl rfl rfl rfl rfl rfl ?_
    refine RunT.xu rfl rfl rfl rfl rfl rfl ?_
    refine RunT.xu rfl rfl rfl rfl rfl rfl ?_
    refine RunT.xn rfl rfl rfl (bo g1) rfl rfl ?_
    refine RunT.ot0 (x := .v (.bool true)) rfl rfl rfl rfl (.pickT (bo g1) rfl) ?_
    refine RunT.ot0 (x := .v (.bool true)) rfl rfl rfl rfl (.assignX rfl) ?_
    refine RunT.nil ?_
    obtain rfl := si H
    refine T.sub (sub_to (st' := ⟨[(4, .v (.bool true))], [], 8, []⟩) [] (by decide) rfl rfl (⟨⟨_, rfl, .one .v⟩, trivial⟩) (trivial)) ?_
    refine T.ret ?_
    exact RetOk.same [.v (.bool true)] ⟨rfl, trivial⟩ rfl rfl rfl
  · replace H := cf H g1
    refine RunT.gt0 (x := .ptr 0 0) rfl rfl rfl (bo g1) rfl rfl (.fieldPX fl28_0 rfl rfl) ?_
    refine RunT.gt0 (x := .v (.int .i64 a0.Row)) rfl rfl rfl (bo g1) rfl rfl (.loadP ty3 rfl rfl rfl) ?_
    refine RunT.gt0 (x := .ptr 8 0) rfl rfl rfl (bo g1) rfl rfl (.fieldPX fl28_0 rfl rfl) ?_
    refine RunT.gt0 (x := .v (.int .i64 a1.Row)) rfl rfl rfl (bo g1) rfl rfl (.loadP ty3 rfl rfl rfl) ?_
    refine RunT.gt0 (x := .v (.bool (decide (a0.Row = a1.Row)))) rfl rfl rfl (bo g1) rfl rfl (.bin rfl rfl (fun w => b_eql w) rfl) ?_
    refine RunT.gt0 (x := .v (.bool (decide (a0.Row = a1.Row)))) rfl rfl rfl (bo g1) rfl rfl (.moveX rfl) ?_
    refine RunT.cases (t := 16) (c := decide (a0.Row = a1.Row)) rfl (fun g2 => ?_) (fun g2 => ?_)
    · replace H := ct H g2
      refine RunT.gt0 (x := .ptr 0 1) rfl rfl rfl (bo g2) rfl rfl (.fieldPX fl28_1 rfl rfl) ?_
      refine RunT.gt0 (x := .v (.int .i64 a0.X)) rfl rfl rfl (bo g2) rfl rfl (.loadP ty3 rfl rfl rfl) ?_
      refine RunT.gt0 (x := .ptr 8 1) rfl rfl rfl (bo g2) rfl rfl (.fieldPX fl28_1 rfl rfl) ?_
      refine RunT.gt0 (x := .v (.int .i64 a1.X)) rfl rfl rfl (bo g2) rfl rfl (.loadP ty3 rfl rfl rfl) ?_
      refine RunT.gt0 (x := .v (.bool (decide (a0.X < a1.X)))) rfl rfl rfl (bo g2) rfl rfl (.bin rfl rfl (fun w => b_lss w) rfl) ?_
      refine RunT.gt0 (x := .v (.bool (decide (a0.X < a1.X)))) rfl rfl rfl (bo g1) rfl rfl (.pickT (bo g2) rfl) ?_
      refine RunT.ot0 (x := .v (.bool (decide (a0.X < a1.X)))) rfl rfl rfl rfl (.pickF (bo g1) rfl) ?_
      refine RunT.ot0 (x := .v (.bool (decide (a0.X < a1.X)))) rfl rfl rfl rfl (.assignX rfl) ?_
      refine RunT.nil ?_
      obtain rfl := si H
      refine T.sub (sub_to (st' := ⟨[(4, .v (.bool (decide (a0.X < a1.X))))], [], 8, []⟩) [] (by decide) rfl rfl (⟨⟨_, rfl, .one .v⟩, trivial⟩) (trivial)) ?_
      refine T.ret ?_
      exact RetOk.same [.v (.bool (decide (a0.X < a1.X)))] ⟨rfl, trivial⟩ rfl rfl rfl
    · replace H := cf H g2
      refine RunT.xn rfl rfl rfl (bo g2) rfl rfl ?_
      refine RunT.xn rfl rfl rfl (bo g2) rfl rfl ?_
      refine RunT.xn rfl rfl rfl (bo g2) rfl rfl ?_
      refine RunT.xn rfl rfl rfl (bo g2) rfl rfl ?_
      refine RunT.xn rfl rfl rfl (bo g2) rfl rfl ?_
      refine RunT.gt0 (x := .v (.bool false)) rfl rfl rfl (bo g1) rfl rfl (.pickF (bo g2) rfl) ?_
      refine RunT.ot0 (x := .v (.bool false)) rfl rfl rfl rfl (.pickF (bo g1) rfl) ?_
      refine RunT.ot0 (x := .v (.bool false)) rfl rfl rfl rfl (.assignX rfl) ?_
      refine RunT.nil ?_
      obtain rfl := si H
      refine T.sub (sub_to (st' := ⟨[(4, .v (.bool false))], [], 8, []⟩) [] (by decide) rfl rfl (⟨⟨_, rfl, .one .v⟩, trivial⟩) (trivial)) ?_
      refine T.ret ?_
      exact RetOk.same [.v (.bool false)] ⟨rfl, trivial⟩ rfl rfl rfl
set_option maxHeartbeats 4000000 in
theorem venue_seats_pc (al : Bool) (k : Nat) (a0 : (List Seat)) (o : Bool) (H : venue_seats k a0 = some o) : PC Try.prog al 152 [.lst (List.map eSeat a0)] (.v (.bool o)) := by
  unfold venue_seats at H
  refine PC.of_T Try.func152 rfl rfl (n := 38) rfl rfl (.inr rfl) ?_
  intro base B w0
  refine T.st (st' := ⟨[(0, .lst (List.map eSeat a0))], [], 0, []⟩) rfl ?_
  refine T.seq ?_
  refine T.region ?_
  refine RunT.ot0 (x := .v (.bool false)) rfl rfl rfl rfl (.assignX rfl) ?_
  refine RunT.nil ?_
  refine T.seq ?_
  refine T.seq ?_
  refine T.region ?_
  refine RunT.ot0 (x := .lst (List.map eSeat a0)) rfl rfl rfl rfl (.moveX rfl) ?_
  refine RunT.ot0 (x := .v (.int .i64 (a0.length : Int))) rfl rfl rfl rfl (.lenLm Try.underlying22 rfl rfl) ?_
  refine RunT.ot0 (x := .v (.int .i64 0)) rfl rfl rfl rfl (.moveX rfl) ?_
  refine RunT.nil ?_
  obtain ⟨o26, E27, HO28⟩ := bs H
  refine T.cutPE (fun v29 => o26 = .go v29) (fun v29 => ⟨[(0, .lst (List.map eSeat a0))], [], 8, []⟩) ?_ ?_
  · have H := E27
    refine T.block ?_
    refine T.loopS (fun n s => ∃ (v30 : Int), venue_seats_l0 k a0 n v30 = some o26 ∧ s = ⟨[(0, .lst (List.map eSeat a0)), (5, .lst (List.map eSeat a0)), (6, .v (.int .i64 (a0.length : Int))), (7, .v (.int .i64 v30))], [], 8, []⟩) k ⟨_, ⟨0, H, rfl⟩, sub_to [] (by decide) rfl rfl (⟨⟨_, rfl, .one .lst⟩, ⟨⟨_, rfl, .one .lst⟩, ⟨⟨_, rfl, .one .v⟩, ⟨⟨_, rfl, .one .v⟩, trivial⟩⟩⟩⟩) (trivial)⟩ ?_
    rintro n s ⟨v30, H, rfl⟩
    rcases n with _ | n
    · cases (show none = some _ from H)
    rw [venue_seats_l0] at H
    refine T.seq ?_
    refine T.region ?_
    refine RunT.ot0 (x := .v (.bool (decide (v30 < (a0.length : Int))))) rfl rfl rfl rfl (.bin rfl rfl (fun w => b_lss w) rfl) ?_
    refine RunT.nil ?_
    refine T.seq ?_
    refine T.cond2 (t := decide (v30 < (a0.length : Int))) rfl (fun c31 => ?_) (fun c31 => ?_)
    · replace H := ct H c31
      refine T.skip ?_
      refine T.seq ?_
      refine T.block ?_
      refine T.seq ?_
      refine T.region ?_
      refine RunT.ot0 (x := .v (.int .i64 v30)) rfl rfl rfl rfl (.moveX rfl) ?_
      obtain ⟨y32, h33, H⟩ := bs H
      refine RunT.ot0 (x := .rptr [.v (.int .i64 y32.Row), .v (.int .i64 y32.X), .v (.int .i64 y32.Y), .v (.int .i64 y32.Kind)]) rfl rfl rfl rfl (.idxLX h33 enc_Seat sl22 rfl rfl rfl) ?_
      refine RunT.ot0 (x := .agg [.v (.int .i64 y32.Row), .v (.int .i64 y32.X), .v (.int .i64 y32.Y), .v (.int .i64 y32.Kind)]) rfl rfl rfl rfl (.loadR ty28 rfl rfl) ?_
      refine RunT.ot1 (x := .ptr 8 0) (p0 := (8, some (.box [.v (.int .i64 0), .v (.int .i64 0), .v (.int .i64 0), .v (.int .i64 0)]))) (n' := 16) rfl rfl rfl rfl (.allocX in28.zero rfl rfl) rfl ?_
      refine RunT.ot0 (x := .v (.int .i64 v30)) rfl rfl rfl rfl (.assignX rfl) ?_
      refine RunT.on1 (x := .junk) (p0 := (8, some (.box [.v (.int .i64 y32.Row), .v (.int .i64 y32.X), .v (.int .i64 y32.Y), .v (.int .i64 y32.Kind)]))) (n' := 24) rfl rfl rfl (.storePX ty28 rfl rfl rfl rfl rfl rfl rfl) rfl ?_
      refine RunT.nil ?_
      refine T.seq ?_
      refine T.draw (wr := []) mixed rfl rfl ?_ rfl
      refine RunD.ot0 (x := .agg [.v (.int .i64 y32.Row), .v (.int .i64 y32.X), .v (.int .i64 y32.Y), .v (.int .i64 y32.Kind)]) rfl rfl rfl rfl (.loadP ty28 rfl rfl rfl) rfl ?_
      obtain ⟨r42, h43, H⟩ := bs H
      refine RunD.ot0 (x := .v (.bool r42)) rfl rfl rfl rfl (.callp (venue_seat_pc false k y32 r42 h43) rfl ⟨(.agg' ⟨.v, .v, .v, .v, trivial⟩), trivial⟩ rfl rfl rfl) rfl ?_
      refine RunD.ot0 (x := .v (.bool (!r42))) rfl rfl rfl rfl (.un rfl (fun w => u_not w) rfl) rfl ?_
      refine RunD.ot0 (x := .v (.bool (!r42))) rfl rfl rfl rfl (.moveX rfl) rfl ?_
      refine RunD.cases (t := 15) (c := !r42) rfl (fun g44 => ?_) (fun g44 => ?_)
      · replace H := ct H g44
        refine RunD.xn rfl rfl rfl (bo g44) rfl rfl ?_
        refine RunD.xn rfl rfl rfl (bo g44) rfl rfl ?_
        refine RunD.xn rfl rfl rfl (bo g44) rfl rfl ?_
        refine RunD.xu rfl rfl rfl rfl rfl rfl ?_
        refine RunD.xu rfl rfl rfl rfl rfl rfl ?_
        refine RunD.xu rfl rfl rfl rfl rfl rfl ?_
        refine RunD.xu rfl rfl rfl rfl rfl rfl ?_
        refine RunD.xu rfl rfl rfl rfl rfl rfl ?_
        refine RunD.xu rfl rfl rfl rfl rfl rfl ?_
        refine RunD.xu rfl rfl rfl rfl rfl rfl ?_
        refine RunD.xu rfl rfl rfl rfl rfl rfl ?_
        refine RunD.xn rfl rfl rfl (bo g44) rfl rfl ?_
        refine RunD.ot0 (x := .v (.bool true)) rfl rfl rfl rfl (.pickT (bo g44) rfl) rfl ?_
        refine RunD.nil (by kernel_rfl) ⟨rfl, rfl, ?_⟩
        refine T.condT rfl ?_
        refine T.seq ?_
        refine T.sub (sub_pick [] [] (st' := ⟨[], [], 160, []⟩) rfl rfl rfl rfl rfl) ?_
        refine T.region ?_
        refine RunT.ot0 (x := .v (.bool false)) rfl rfl rfl rfl (.assignX rfl) ?_
        refine RunT.nil ?_
        obtain rfl := si H
        have HX := exr HO28
        obtain rfl := si HX
        refine T.sub (sub_to (st' := ⟨[(2, .v (.bool false))], [], 8, []⟩) [] (by decide) rfl rfl (⟨⟨_, rfl, .one .v⟩, trivial⟩) (trivial)) ?_
        refine T.ret ?_
        exact RetOk.same [.v (.bool false)] ⟨rfl, trivial⟩ rfl rfl rfl
      · replace H := cf H g44
        refine RunD.gt0 (x := .v (.int .i64 v30)) rfl rfl rfl (bo g44) rfl rfl (.moveX rfl) rfl ?_
        refine RunD.gt0 (x := .v (.bool (decide (0 < v30)))) rfl rfl rfl (bo g44) rfl rfl (.bin rfl rfl (fun w => b_gtr w) rfl) rfl ?_
        refine RunD.gt0 (x := .v (.bool (decide (0 < v30)))) rfl rfl rfl (bo g44) rfl rfl (.moveX rfl) rfl ?_
        refine RunD.cases (t := 18) (c := decide (0 < v30)) rfl (fun g45 => ?_) (fun g45 => ?_)
        · replace H := ct H g45
          refine RunD.gt0 (x := .lst (List.map eSeat a0)) rfl rfl rfl (bo g45) rfl rfl (.moveX rfl) rfl ?_
          refine RunD.gt0 (x := .v (.int .i64 v30)) rfl rfl rfl (bo g45) rfl rfl (.moveX rfl) rfl ?_
          refine RunD.gt0 (x := .v (.int .i64 (wr (v30 - 1)))) rfl rfl rfl (bo g45) rfl rfl (.bin rfl rfl (fun w => b_subw w) rfl) rfl ?_
          obtain ⟨y46, h47, H⟩ := bs H
          refine RunD.gt0 (x := .rptr [.v (.int .i64 y46.Row), .v (.int .i64 y46.X), .v (.int .i64 y46.Y), .v (.int .i64 y46.Kind)]) rfl rfl rfl (bo g45) rfl rfl (.idxLX h47 enc_Seat sl22 rfl rfl rfl) rfl ?_
          refine RunD.gt0 (x := .agg [.v (.int .i64 y46.Row), .v (.int .i64 y46.X), .v (.int .i64 y46.Y), .v (.int .i64 y46.Kind)]) rfl rfl rfl (bo g45) rfl rfl (.loadR ty28 rfl rfl) rfl ?_
          refine RunD.gt0 (x := .agg [.v (.int .i64 y32.Row), .v (.int .i64 y32.X), .v (.int .i64 y32.Y), .v (.int .i64 y32.Kind)]) rfl rfl rfl (bo g45) rfl rfl (.loadP ty28 rfl rfl rfl) rfl ?_
          obtain ⟨r48, h49, H⟩ := bs H
          refine RunD.gt0 (x := .v (.bool r48)) rfl rfl rfl (bo g45) rfl rfl (.callp (venue_Less_pc false k y46 y32 r48 h49) rfl ⟨(.agg' ⟨.v, .v, .v, .v, trivial⟩), (.agg' ⟨.v, .v, .v, .v, trivial⟩), trivial⟩ rfl rfl rfl) rfl ?_
          refine RunD.gt0 (x := .v (.bool (!r48))) rfl rfl rfl (bo g45) rfl rfl (.un rfl (fun w => u_not w) rfl) rfl ?_
          refine RunD.gt0 (x := .v (.bool (!r48))) rfl rfl rfl (bo g44) rfl rfl (.pickT (bo g45) rfl) rfl ?_
          refine RunD.ot0 (x := .v (.bool (!r48))) rfl rfl rfl rfl (.pickF (bo g44) rfl) rfl ?_
          refine RunD.nil (by kernel_rfl) ⟨rfl, rfl, ?_⟩
          refine T.cond2 (t := !r48) rfl (fun c50 => ?_) (fun c50 => ?_)
          · replace H := ct H c50
            refine T.seq ?_
            refine T.sub (sub_pick [] [] (st' := ⟨[], [], 160, []⟩) rfl rfl rfl rfl rfl) ?_
            refine T.region ?_
            refine RunT.ot0 (x := .v (.bool false)) rfl rfl rfl rfl (.assignX rfl) ?_
            refine RunT.nil ?_
            obtain rfl := si H
            have HX := exr HO28
            obtain rfl := si HX
            refine T.sub (sub_to (st' := ⟨[(2, .v (.bool false))], [], 8, []⟩) [] (by decide) rfl rfl (⟨⟨_, rfl, .one .v⟩, trivial⟩) (trivial)) ?_
            refine T.ret ?_
            exact RetOk.same [.v (.bool false)] ⟨rfl, trivial⟩ rfl rfl rfl
          · replace H := cf H c50
            refine T.skip ?_
            refine T.region ?_
            refine RunT.ot0 (x := .v (.int .i64 (wr (v30 + 1)))) rfl rfl rfl rfl (.bin rfl rfl (fun w => b_addw w) rfl) ?_
            refine RunT.ot0 (x := .v (.int .i64 (wr (v30 + 1)))) rfl rfl rfl rfl (.moveX rfl) ?_
            refine RunT.nil ?_
            exact ⟨n, Nat.lt_succ_self n, _, ⟨wr (v30 + 1), H, rfl⟩, (sub_to [] (by decide) rfl rfl (⟨⟨_, rfl, .one .lst⟩, ⟨⟨_, rfl, .one .lst⟩, ⟨⟨_, rfl, .one .v⟩, ⟨⟨_, rfl, .one .v⟩, trivial⟩⟩⟩⟩) (trivial))⟩
        · replace H := cf H g45
          refine RunD.xn rfl rfl rfl (bo g45) rfl rfl ?_
          refine RunD.xn rfl rfl rfl (bo g45) rfl rfl ?_
          refine RunD.xn rfl rfl rfl (bo g45) rfl rfl ?_
          refine RunD.xn rfl rfl rfl (bo g45) rfl rfl ?_
          refine RunD.xn rfl rfl rfl (bo g45) rfl rfl ?_
          refine RunD.xn rfl rfl rfl (bo g45) rfl rfl ?_
          refine RunD.xn rfl rfl rfl (bo g45) rfl rfl ?_
          refine RunD.xn rfl rfl rfl (bo g45) rfl rfl ?_
          refine RunD.gt0 (x := .v (.bool false)) rfl rfl rfl (bo g44) rfl rfl (.pickF (bo g45) rfl) rfl ?_
          refine RunD.ot0 (x := .v (.bool false)) rfl rfl rfl rfl (.pickF (bo g44) rfl) rfl ?_
          refine RunD.nil (by kernel_rfl) ⟨rfl, rfl, ?_⟩
          refine T.condF rfl ?_
          refine T.skip ?_
          refine T.sub (sub_pick [0, 5, 6, 7] [] (st' := ⟨[(0, .lst (List.map eSeat a0)), (5, .lst (List.map eSeat a0)), (6, .v (.int .i64 (a0.length : Int))), (7, .v (.int .i64 v30))], [], 160, []⟩) rfl rfl rfl rfl rfl) ?_
          refine T.region ?_
          refine RunT.ot0 (x := .v (.int .i64 (wr (v30 + 1)))) rfl rfl rfl rfl (.bin rfl rfl (fun w => b_addw w) rfl) ?_
          refine RunT.ot0 (x := .v (.int .i64 (wr (v30 + 1)))) rfl rfl rfl rfl (.moveX rfl) ?_
          refine RunT.nil ?_
          exact ⟨n, Nat.lt_succ_self n, _, ⟨wr (v30 + 1), H, rfl⟩, (sub_to [] (by decide) rfl rfl (⟨⟨_, rfl, .one .lst⟩, ⟨⟨_, rfl, .one .lst⟩, ⟨⟨_, rfl, .one .v⟩, ⟨⟨_, rfl, .one .v⟩, trivial⟩⟩⟩⟩) (trivial))⟩
    · replace H := cf H c31
      refine T.exit ?_
      obtain rfl := si H
      exact ⟨_, rfl, (sub_to [] (by decide) rfl rfl (⟨⟨_, rfl, .one .lst⟩, trivial⟩) (trivial))⟩
  · intro v29 s hR hS
    subst hR
    have H := exg HO28
    refine T.sub hS ?_
    refine T.seq ?_
    refine T.region ?_
    refine RunT.ot0 (x := .lst (List.map eSeat a0)) rfl rfl rfl rfl (.moveX rfl) ?_
    refine RunT.ot0 (x := .v (.int .i64 (a0.length : Int))) rfl rfl rfl rfl (.lenLm Try.underlying22 rfl rfl) ?_
    refine RunT.ot0 (x := .v (.bool (decide (0 < (a0.length : Int))))) rfl rfl rfl rfl (.bin rfl rfl (fun w => b_gtr w) rfl) ?_
    refine RunT.ot0 (x := .v (.bool (decide (0 < (a0.length : Int))))) rfl rfl rfl rfl (.moveX rfl) ?_
    refine RunT.cases (t := 33) (c := decide (0 < (a0.length : Int))) rfl (fun g51 => ?_) (fun g51 => ?_)
    · replace H := ct H g51
      refine RunT.gt0 (x := .lst (List.map eSeat a0)) rfl rfl rfl (bo g51) rfl rfl (.moveX rfl) ?_
      refine RunT.gt0 (x := .v (.int .i64 (a0.length : Int))) rfl rfl rfl (bo g51) rfl rfl (.lenLm Try.underlying22 rfl rfl) ?_
      refine RunT.gt0 (x := .v (.bool (decide ((a0.length : Int) ≤ 4096)))) rfl rfl rfl (bo g51) rfl rfl (.bin rfl rfl (fun w => b_leq w) rfl) ?_
      refine RunT.ot0 (x := .v (.bool (decide ((a0.length : Int) ≤ 4096)))) rfl rfl rfl rfl (.pickT (bo g51) rfl) ?_
      refine RunT.ot0 (x := .v (.bool (decide ((a0.length : Int) ≤ 4096)))) rfl rfl rfl rfl (.assignX rfl) ?_
      refine RunT.nil ?_
      obtain rfl := si H
      refine T.sub (sub_to (st' := ⟨[(2, .v (.bool (decide ((a0.length : Int) ≤ 4096))))], [], 8, []⟩) [] (by decide) rfl rfl (⟨⟨_, rfl, .one .v⟩, trivial⟩) (trivial)) ?_
      refine T.ret ?_
      exact RetOk.same [.v (.bool (decide ((a0.length : Int) ≤ 4096)))] ⟨rfl, trivial⟩ rfl rfl rfl
    · replace H := cf H g51
      refine RunT.xn rfl rfl rfl (bo g51) rfl rfl ?_
      refine RunT.xn rfl rfl rfl (bo g51) rfl rfl ?_
      refine RunT.xn rfl rfl rfl (bo g51) rfl rfl ?_
      refine RunT.ot0 (x := .v (.bool false)) rfl rfl rfl rfl (.pickF (bo g51) rfl) ?_
      refine RunT.ot0 (x := .v (.bool false)) rfl rfl rfl rfl (.assignX rfl) ?_
      refine RunT.nil ?_
      obtain rfl := si H
      refine T.sub (sub_to (st' := ⟨[(2, .v (.bool false))], [], 8, []⟩) [] (by decide) rfl rfl (⟨⟨_, rfl, .one .v⟩, trivial⟩) (trivial)) ?_
      refine T.ret ?_
      exact RetOk.same [.v (.bool false)] ⟨rfl, trivial⟩ rfl rfl rfl
set_option maxHeartbeats 4000000 in
theorem venue_kills_pc (al : Bool) (k : Nat) (a0 : (List Int)) (a1 : Int) (o : Bool) (H : venue_kills k a0 a1 = some o) : PC Try.prog al 153 [.lst (List.map eI a0), .v (.int .i64 a1)] (.v (.bool o)) := by
  unfold venue_kills at H
  refine PC.of_T Try.func153 rfl rfl (n := 38) rfl rfl (.inr rfl) ?_
  intro base B w0
  refine T.st (st' := ⟨[(0, .lst (List.map eI a0)), (1, .v (.int .i64 a1))], [], 0, []⟩) rfl ?_
  refine T.seq ?_
  refine T.region ?_
  refine RunT.ot0 (x := .v (.bool false)) rfl rfl rfl rfl (.assignX rfl) ?_
  refine RunT.nil ?_
  refine T.seq ?_
  refine T.seq ?_
  refine T.region ?_
  refine RunT.ot0 (x := .lst (List.map eI a0)) rfl rfl rfl rfl (.moveX rfl) ?_
  refine RunT.ot0 (x := .v (.int .i64 (a0.length : Int))) rfl rfl rfl rfl (.lenLm Try.underlying23 rfl rfl) ?_
  refine RunT.ot0 (x := .v (.int .i64 0)) rfl rfl rfl rfl (.moveX rfl) ?_
  refine RunT.nil ?_
  obtain ⟨o20, E21, HO22⟩ := bs H
  refine T.cutPE (fun v23 => o20 = .go v23) (fun v23 => ⟨[(0, .lst (List.map eI a0))], [], 8, []⟩) ?_ ?_
  · have H := E21
    refine T.block ?_
    refine T.loopS (fun n s => ∃ (v24 : Int), venue_kills_l0 k a0 a1 n v24 = some o20 ∧ s = ⟨[(0, .lst (List.map eI a0)), (1, .v (.int .i64 a1)), (7, .lst (List.map eI a0)), (8, .v (.int .i64 (a0.length : Int))), (9, .v (.int .i64 v24))], [], 8, []⟩) k ⟨_, ⟨0, H, rfl⟩, sub_to [] (by decide) rfl rfl (⟨⟨_, rfl, .one .lst⟩, ⟨⟨_, rfl, .one .v⟩, ⟨⟨_, rfl, .one .lst⟩, ⟨⟨_, rfl, .one .v⟩, ⟨⟨_, rfl, .one .v⟩, trivial⟩⟩⟩⟩⟩) (trivial)⟩ ?_
    rintro n s ⟨v24, H, rfl⟩
    rcases n with _ | n
    · cases (show none = some _ from H)
    rw [venue_kills_l0] at H
    refine T.seq ?_
    refine T.region ?_
    refine RunT.ot0 (x := .v (.bool (decide (v24 < (a0.length : Int))))) rfl rfl rfl rfl (.bin rfl rfl (fun w => b_lss w) rfl) ?_
    refine RunT.nil ?_
    refine T.seq ?_
    refine T.cond2 (t := decide (v24 < (a0.length : Int))) rfl (fun c25 => ?_) (fun c25 => ?_)
    · replace H := ct H c25
      refine T.skip ?_
      refine T.seq ?_
      refine T.block ?_
      refine T.seq ?_
      refine T.region ?_
      refine RunT.ot0 (x := .v (.int .i64 v24)) rfl rfl rfl rfl (.moveX rfl) ?_
      obtain ⟨y26, h27, H⟩ := bs H
      refine RunT.ot0 (x := .rptr [.v (.int .i64 y26)]) rfl rfl rfl rfl (.idxLX h27 enc_I sl23 rfl rfl rfl) ?_
      refine RunT.ot0 (x := .v (.int .i64 y26)) rfl rfl rfl rfl (.loadR ty3 rfl rfl) ?_
      refine RunT.ot0 (x := .v (.int .i64 v24)) rfl rfl rfl rfl (.assignX rfl) ?_
      refine RunT.ot0 (x := .v (.int .i64 y26)) rfl rfl rfl rfl (.assignX rfl) ?_
      refine RunT.nil ?_
      refine T.seq ?_
      refine T.region ?_
      refine RunT.ot0 (x := .v (.int .i64 y26)) rfl rfl rfl rfl (.moveX rfl) ?_
      refine RunT.ot0 (x := .v (.bool (decide (y26 < 0)))) rfl rfl rfl rfl (.bin rfl rfl (fun w => b_lss w) rfl) ?_
      refine RunT.ot0 (x := .v (.bool (decide (y26 < 0)))) rfl rfl rfl rfl (.moveX rfl) ?_
      refine RunT.cases (t := 16) (c := decide (y26 < 0)) rfl (fun g28 => ?_) (fun g28 => ?_)
      · replace H := ct H g28
        refine RunT.xn rfl rfl rfl (bo g28) rfl rfl ?_
        refine RunT.xn rfl rfl rfl (bo g28) rfl rfl ?_
        refine RunT.xn rfl rfl rfl (bo g28) rfl rfl ?_
        refine RunT.ot0 (x := .v (.bool true)) rfl rfl rfl rfl (.pickT (bo g28) rfl) ?_
        refine RunT.ot0 (x := .v (.bool true)) rfl rfl rfl rfl (.moveX rfl) ?_
        refine RunT.xn rfl rfl rfl rfl rfl rfl ?_
        refine RunT.xn rfl rfl rfl rfl rfl rfl ?_
        refine RunT.xn rfl rfl rfl rfl rfl rfl ?_
        refine RunT.xu rfl rfl rfl rfl rfl rfl ?_
        refine RunT.xu rfl rfl rfl rfl rfl rfl ?_
        refine RunT.xu rfl rfl rfl rfl rfl rfl ?_
        refine RunT.xu rfl rfl rfl rfl rfl rfl ?_
        refine RunT.xu rfl rfl rfl rfl rfl rfl ?_
        refine RunT.xu rfl rfl rfl rfl rfl rfl ?_
        refine RunT.xu rfl rfl rfl rfl rfl rfl ?_
        refine RunT.xn rfl rfl rfl rfl rfl rfl ?_
        refine RunT.ot0 (x := .v (.bool true)) rfl rfl rfl rfl (.pickT rfl rfl) ?_
        refine RunT.nil ?_
        refine T.condT rfl ?_
        refine T.seq ?_
        refine T.sub (sub_pick [] [] (st' := ⟨[], [], 8, []⟩) rfl rfl rfl rfl rfl) ?_
        refine T.region ?_
        refine RunT.ot0 (x := .v (.bool false)) rfl rfl rfl rfl (.assignX rfl) ?_
        refine RunT.nil ?_
        obtain rfl := si H
        have HX := exr HO22
        obtain rfl := si HX
        refine T.sub (sub_to (st' := ⟨[(4, .v (.bool false))], [], 8, []⟩) [] (by decide) rfl rfl (⟨⟨_, rfl, .one .v⟩, trivial⟩) (trivial)) ?_
        refine T.ret ?_
        exact RetOk.same [.v (.bool false)] ⟨rfl, trivial⟩ rfl rfl rfl
      · replace H := cf H g28
        refine RunT.gt0 (x := .v (.int .i64 y26)) rfl rfl rfl (bo g28) rfl rfl (.moveX rfl) ?_
        refine RunT.gt0 (x := .v (.int .i64 a1)) rfl rfl rfl (bo g28) rfl rfl (.moveX rfl) ?_
        refine RunT.gt0 (x := .v (.bool (decide (a1 ≤ y26)))) rfl rfl rfl (bo g28) rfl rfl (.bin rfl rfl (fun w => b_geq w) rfl) ?_
        refine RunT.ot0 (x := .v (.bool (decide (a1 ≤ y26)))) rfl rfl rfl rfl (.pickF (bo g28) rfl) ?_
        refine RunT.ot0 (x := .v (.bool (decide (a1 ≤ y26)))) rfl rfl rfl rfl (.moveX rfl) ?_
        refine RunT.cases (t := 21) (c := decide (a1 ≤ y26)) rfl (fun g29 => ?_) (fun g29 => ?_)
        · replace H := ct H g29
          refine RunT.xn rfl rfl rfl (bo g29) rfl rfl ?_
          refine RunT.xn rfl rfl rfl (bo g29) rfl rfl ?_
          refine RunT.xn rfl rfl rfl (bo g29) rfl rfl ?_
          refine RunT.xu rfl rfl rfl rfl rfl rfl ?_
          refine RunT.xu rfl rfl rfl rfl rfl rfl ?_
          refine RunT.xu rfl rfl rfl rfl rfl rfl ?_
          refine RunT.xu rfl rfl rfl rfl rfl rfl ?_
          refine RunT.xu rfl rfl rfl rfl rfl rfl ?_
          refine RunT.xu rfl rfl rfl rfl rfl rfl ?_
          refine RunT.xu rfl rfl rfl rfl rfl rfl ?_
          refine RunT.xn rfl rfl rfl (bo g29) rfl rfl ?_
          refine RunT.ot0 (x := .v (.bool true)) rfl rfl rfl rfl (.pickT (bo g29) rfl) ?_
          refine RunT.nil ?_
          refine T.condT rfl ?_
          refine T.seq ?_
          refine T.region ?_
          refine RunT.ot0 (x := .v (.bool false)) rfl rfl rfl rfl (.assignX rfl) ?_
          refine RunT.nil ?_
          obtain rfl := si H
          have HX := exr HO22
          obtain rfl := si HX
          refine T.sub (sub_to (st' := ⟨[(4, .v (.bool false))], [], 8, []⟩) [] (by decide) rfl rfl (⟨⟨_, rfl, .one .v⟩, trivial⟩) (trivial)) ?_
          refine T.ret ?_
          exact RetOk.same [.v (.bool false)] ⟨rfl, trivial⟩ rfl rfl rfl
        · replace H := cf H g29
          refine RunT.gt0 (x := .v (.int .i64 v24)) rfl rfl rfl (bo g29) rfl rfl (.moveX rfl) ?_
          refine RunT.gt0 (x := .v (.bool (decide (0 < v24)))) rfl rfl rfl (bo g29) rfl rfl (.bin rfl rfl (fun w => b_gtr w) rfl) ?_
          refine RunT.gt0 (x := .v (.bool (decide (0 < v24)))) rfl rfl rfl (bo g29) rfl rfl (.moveX rfl) ?_
          refine RunT.cases (t := 24) (c := decide (0 < v24)) rfl (fun g30 => ?_) (fun g30 => ?_)
          · replace H := ct H g30
            refine RunT.gt0 (x := .v (.int .i64 y26)) rfl rfl rfl (bo g30) rfl rfl (.moveX rfl) ?_
            refine RunT.gt0 (x := .lst (List.map eI a0)) rfl rfl rfl (bo g30) rfl rfl (.moveX rfl) ?_
            refine RunT.gt0 (x := .v (.int .i64 v24)) rfl rfl rfl (bo g30) rfl rfl (.moveX rfl) ?_
            refine RunT.gt0 (x := .v (.int .i64 (wr (v24 - 1)))) rfl rfl rfl (bo g30) rfl rfl (.bin rfl rfl (fun w => b_subw w) rfl) ?_
            obtain ⟨y31, h32, H⟩ := bs H
            refine RunT.gt0 (x := .rptr [.v (.int .i64 y31)]) rfl rfl rfl (bo g30) rfl rfl (.idxLX h32 enc_I sl23 rfl rfl rfl) ?_
            refine RunT.gt0 (x := .v (.int .i64 y31)) rfl rfl rfl (bo g30) rfl rfl (.loadR ty3 rfl rfl) ?_
            refine RunT.gt0 (x := .v (.bool (decide (y26 ≤ y31)))) rfl rfl rfl (bo g30) rfl rfl (.bin rfl rfl (fun w => b_leq w) rfl) ?_
            refine RunT.gt0 (x := .v (.bool (decide (y26 ≤ y31)))) rfl rfl rfl (bo g29) rfl rfl (.pickT (bo g30) rfl) ?_
            refine RunT.ot0 (x := .v (.bool (decide (y26 ≤ y31)))) rfl rfl rfl rfl (.pickF (bo g29) rfl) ?_
            refine RunT.nil ?_
            refine T.cond2 (t := decide (y26 ≤ y31)) rfl (fun c33 => ?_) (fun c33 => ?_)
            · replace H := ct H c33
              refine T.seq ?_
              refine T.sub (sub_pick [] [] (st' := ⟨[], [], 8, []⟩) rfl rfl rfl rfl rfl) ?_
              refine T.region ?_
              refine RunT.ot0 (x := .v (.bool false)) rfl rfl rfl rfl (.assignX rfl) ?_
              refine RunT.nil ?_
              obtain rfl := si H
              have HX := exr HO22
              obtain rfl := si HX
              refine T.sub (sub_to (st' := ⟨[(4, .v (.bool false))], [], 8, []⟩) [] (by decide) rfl rfl (⟨⟨_, rfl, .one .v⟩, trivial⟩) (trivial)) ?_
              refine T.ret ?_
              exact RetOk.same [.v (.bool false)] ⟨rfl, trivial⟩ rfl rfl rfl
            · replace H := cf H c33
              refine T.skip ?_
              refine T.region ?_
              refine RunT.ot0 (x := .v (.int .i64 (wr (v24 + 1)))) rfl rfl rfl rfl (.bin rfl rfl (fun w => b_addw w) rfl) ?_
              refine RunT.ot0 (x := .v (.int .i64 (wr (v24 + 1)))) rfl rfl rfl rfl (.moveX rfl) ?_
              refine RunT.nil ?_
              exact ⟨n, Nat.lt_succ_self n, _, ⟨wr (v24 + 1), H, rfl⟩, (sub_to [] (by decide) rfl rfl (⟨⟨_, rfl, .one .lst⟩, ⟨⟨_, rfl, .one .v⟩, ⟨⟨_, rfl, .one .lst⟩, ⟨⟨_, rfl, .one .v⟩, ⟨⟨_, rfl, .one .v⟩, trivial⟩⟩⟩⟩⟩) (trivial))⟩
          · replace H := cf H g30
            refine RunT.xn rfl rfl rfl (bo g30) rfl rfl ?_
            refine RunT.xn rfl rfl rfl (bo g30) rfl rfl ?_
            refine RunT.xn rfl rfl rfl (bo g30) rfl rfl ?_
            refine RunT.xn rfl rfl rfl (bo g30) rfl rfl ?_
            refine RunT.xn rfl rfl rfl (bo g30) rfl rfl ?_
            refine RunT.xn rfl rfl rfl (bo g30) rfl rfl ?_
            refine RunT.xn rfl rfl rfl (bo g30) rfl rfl ?_
            refine RunT.gt0 (x := .v (.bool false)) rfl rfl rfl (bo g29) rfl rfl (.pickF (bo g30) rfl) ?_
            refine RunT.ot0 (x := .v (.bool false)) rfl rfl rfl rfl (.pickF (bo g29) rfl) ?_
            refine RunT.nil ?_
            refine T.condF rfl ?_
            refine T.skip ?_
            refine T.region ?_
            refine RunT.ot0 (x := .v (.int .i64 (wr (v24 + 1)))) rfl rfl rfl rfl (.bin rfl rfl (fun w => b_addw w) rfl) ?_
            refine RunT.ot0 (x := .v (.int .i64 (wr (v24 + 1)))) rfl rfl rfl rfl (.moveX rfl) ?_
            refine RunT.nil ?_
            exact ⟨n, Nat.lt_succ_self n, _, ⟨wr (v24 + 1), H, rfl⟩, (sub_to [] (by decide) rfl rfl (⟨⟨_, rfl, .one .lst⟩, ⟨⟨_, rfl, .one .v⟩, ⟨⟨_, rfl, .one .lst⟩, ⟨⟨_, rfl, .one .v⟩, ⟨⟨_, rfl, .one .v⟩, trivial⟩⟩⟩⟩⟩) (trivial))⟩
    · replace H := cf H c25
      refine T.exit ?_
      obtain rfl := si H
      exact ⟨_, rfl, (sub_to [] (by decide) rfl rfl (⟨⟨_, rfl, .one .lst⟩, trivial⟩) (trivial))⟩
  · intro v23 s hR hS
    subst hR
    have H := exg HO22
    refine T.sub hS ?_
    refine T.seq ?_
    refine T.region ?_
    refine RunT.ot0 (x := .lst (List.map eI a0)) rfl rfl rfl rfl (.moveX rfl) ?_
    refine RunT.ot0 (x := .v (.int .i64 (a0.length : Int))) rfl rfl rfl rfl (.lenLm Try.underlying23 rfl rfl) ?_
    refine RunT.ot0 (x := .v (.bool (decide ((a0.length : Int) ≤ 200)))) rfl rfl rfl rfl (.bin rfl rfl (fun w => b_leq w) rfl) ?_
    refine RunT.ot0 (x := .v (.bool (decide ((a0.length : Int) ≤ 200)))) rfl rfl rfl rfl (.assignX rfl) ?_
    refine RunT.nil ?_
    obtain rfl := si H
    refine T.sub (sub_to (st' := ⟨[(4, .v (.bool (decide ((a0.length : Int) ≤ 200))))], [], 8, []⟩) [] (by decide) rfl rfl (⟨⟨_, rfl, .one .v⟩, trivial⟩) (trivial)) ?_
    refine T.ret ?_
    exact RetOk.same [.v (.bool (decide ((a0.length : Int) ≤ 200)))] ⟨rfl, trivial⟩ rfl rfl rfl
set_option maxHeartbeats 4000000 in
theorem venue_poles_pc (al : Bool) (k : Nat) (a0 : (List Pole)) (o : Bool) (H : venue_poles k a0 = some o) : PC Try.prog al 154 [.lst (List.map ePole a0)] (.v (.bool o)) := by
  unfold venue_poles at H
  refine PC.of_T Try.func154 rfl rfl (n := 31) rfl rfl (.inr rfl) ?_
  intro base B w0
  refine T.st (st' := ⟨[(0, .lst (List.map ePole a0))], [], 0, []⟩) rfl ?_
  refine T.seq ?_
  refine T.region ?_
  refine RunT.ot0 (x := .v (.bool false)) rfl rfl rfl rfl (.assignX rfl) ?_
  refine RunT.nil ?_
  refine T.seq ?_
  refine T.seq ?_
  refine T.region ?_
  refine RunT.ot0 (x := .lst (List.map ePole a0)) rfl rfl rfl rfl (.moveX rfl) ?_
  refine RunT.ot0 (x := .v (.int .i64 (a0.length : Int))) rfl rfl rfl rfl (.lenLm Try.underlying24 rfl rfl) ?_
  refine RunT.ot0 (x := .v (.int .i64 0)) rfl rfl rfl rfl (.moveX rfl) ?_
  refine RunT.nil ?_
  obtain ⟨o26, E27, HO28⟩ := bs H
  refine T.cutPE (fun v29 => o26 = .go v29) (fun v29 => ⟨[(0, .lst (List.map ePole a0))], [], 8, []⟩) ?_ ?_
  · have H := E27
    refine T.block ?_
    refine T.loopS (fun n s => ∃ (v30 : Int), venue_poles_l0 k a0 n v30 = some o26 ∧ s = ⟨[(0, .lst (List.map ePole a0)), (5, .lst (List.map ePole a0)), (6, .v (.int .i64 (a0.length : Int))), (7, .v (.int .i64 v30))], [], 8, []⟩) k ⟨_, ⟨0, H, rfl⟩, sub_to [] (by decide) rfl rfl (⟨⟨_, rfl, .one .lst⟩, ⟨⟨_, rfl, .one .lst⟩, ⟨⟨_, rfl, .one .v⟩, ⟨⟨_, rfl, .one .v⟩, trivial⟩⟩⟩⟩) (trivial)⟩ ?_
    rintro n s ⟨v30, H, rfl⟩
    rcases n with _ | n
    · cases (show none = some _ from H)
    rw [venue_poles_l0] at H
    refine T.seq ?_
    refine T.region ?_
    refine RunT.ot0 (x := .v (.bool (decide (v30 < (a0.length : Int))))) rfl rfl rfl rfl (.bin rfl rfl (fun w => b_lss w) rfl) ?_
    refine RunT.nil ?_
    refine T.seq ?_
    refine T.cond2 (t := decide (v30 < (a0.length : Int))) rfl (fun c31 => ?_) (fun c31 => ?_)
    · replace H := ct H c31
      refine T.skip ?_
      refine T.seq ?_
      refine T.block ?_
      refine T.seq ?_
      refine T.region ?_
      obtain ⟨y32, h33, H⟩ := bs H
      refine RunT.ot0 (x := .rptr [.v (.int .i64 y32.X), .v (.int .i64 y32.Y), .v (.int .i64 y32.R)]) rfl rfl rfl rfl (.idxLX h33 enc_Pole sl24 rfl rfl rfl) ?_
      refine RunT.ot0 (x := .agg [.v (.int .i64 y32.X), .v (.int .i64 y32.Y), .v (.int .i64 y32.R)]) rfl rfl rfl rfl (.loadR ty60 rfl rfl) ?_
      refine RunT.ot1 (x := .ptr 8 0) (p0 := (8, some (.box [.v (.int .i64 0), .v (.int .i64 0), .v (.int .i64 0)]))) (n' := 16) rfl rfl rfl rfl (.allocX in60.zero rfl rfl) rfl ?_
      refine RunT.on1 (x := .junk) (p0 := (8, some (.box [.v (.int .i64 y32.X), .v (.int .i64 y32.Y), .v (.int .i64 y32.R)]))) (n' := 24) rfl rfl rfl (.storePX ty60 rfl rfl rfl rfl rfl rfl rfl) rfl ?_
      refine RunT.nil ?_
      refine T.seq ?_
      refine T.region ?_
      refine RunT.ot0 (x := .ptr 8 0) rfl rfl rfl rfl (.fieldPX fl60_0 rfl rfl) ?_
      refine RunT.ot0 (x := .v (.int .i64 y32.X)) rfl rfl rfl rfl (.loadP ty3 rfl rfl rfl) ?_
      obtain ⟨r34, h35, H⟩ := bs H
      refine RunT.ot0 (x := .v (.bool r34)) rfl rfl rfl rfl (.callp (venue_Coord_pc false k y32.X r34 h35) rfl ⟨(.one .v), trivial⟩ rfl rfl rfl) ?_
      refine RunT.ot0 (x := .v (.bool (!r34))) rfl rfl rfl rfl (.un rfl (fun w => u_not w) rfl) ?_
      refine RunT.ot0 (x := .v (.bool (!r34))) rfl rfl rfl rfl (.moveX rfl) ?_
      refine RunT.cases (t := 15) (c := !r34) rfl (fun g36 => ?_) (fun g36 => ?_)
      · replace H := ct H g36
        refine RunT.xn rfl rfl rfl (bo g36) rfl rfl ?_
        refine RunT.xn rfl rfl rfl (bo g36) rfl rfl ?_
        refine RunT.xn rfl rfl rfl (bo g36) rfl rfl ?_
        refine RunT.xn rfl rfl rfl (bo g36) rfl rfl ?_
        refine RunT.ot0 (x := .v (.bool true)) rfl rfl rfl rfl (.pickT (bo g36) rfl) ?_
        refine RunT.ot0 (x := .v (.bool true)) rfl rfl rfl rfl (.moveX rfl) ?_
        refine RunT.xn rfl rfl rfl rfl rfl rfl ?_
        refine RunT.xn rfl rfl rfl rfl rfl rfl ?_
        refine RunT.xn rfl rfl rfl rfl rfl rfl ?_
        refine RunT.xn rfl rfl rfl rfl rfl rfl ?_
        refine RunT.ot0 (x := .v (.bool true)) rfl rfl rfl rfl (.pickT rfl rfl) ?_
        refine RunT.nil ?_
        refine T.condT rfl ?_
        refine T.seq ?_
        refine T.sub (sub_pick [] [] (st' := ⟨[], [], 24, []⟩) rfl rfl rfl rfl rfl) ?_
        refine T.region ?_
        refine RunT.ot0 (x := .v (.bool false)) rfl rfl rfl rfl (.assignX rfl) ?_
        refine RunT.nil ?_
        obtain rfl := si H
        have HX := exr HO28
        obtain rfl := si HX
        refine T.sub (sub_to (st' := ⟨[(2, .v (.bool false))], [], 8, []⟩) [] (by decide) rfl rfl (⟨⟨_, rfl, .one .v⟩, trivial⟩) (trivial)) ?_
        refine T.ret ?_
        exact RetOk.same [.v (.bool false)] ⟨rfl, trivial⟩ rfl rfl rfl
      · replace H := cf H g36
        refine RunT.gt0 (x := .ptr 8 1) rfl rfl rfl (bo g36) rfl rfl (.fieldPX fl60_1 rfl rfl) ?_
        refine RunT.gt0 (x := .v (.int .i64 y32.Y)) rfl rfl rfl (bo g36) rfl rfl (.loadP ty3 rfl rfl rfl) ?_
        obtain ⟨r37, h38, H⟩ := bs H
        refine RunT.gt0 (x := .v (.bool r37)) rfl rfl rfl (bo g36) rfl rfl (.callp (venue_Coord_pc false k y32.Y r37 h38) rfl ⟨(.one .v), trivial⟩ rfl rfl rfl) ?_
        refine RunT.gt0 (x := .v (.bool (!r37))) rfl rfl rfl (bo g36) rfl rfl (.un rfl (fun w => u_not w) rfl) ?_
        refine RunT.ot0 (x := .v (.bool (!r37))) rfl rfl rfl rfl (.pickF (bo g36) rfl) ?_
        refine RunT.ot0 (x := .v (.bool (!r37))) rfl rfl rfl rfl (.moveX rfl) ?_
        refine RunT.cases (t := 21) (c := !r37) rfl (fun g39 => ?_) (fun g39 => ?_)
        · replace H := ct H g39
          refine RunT.xn rfl rfl rfl (bo g39) rfl rfl ?_
          refine RunT.xn rfl rfl rfl (bo g39) rfl rfl ?_
          refine RunT.xn rfl rfl rfl (bo g39) rfl rfl ?_
          refine RunT.xn rfl rfl rfl (bo g39) rfl rfl ?_
          refine RunT.ot0 (x := .v (.bool true)) rfl rfl rfl rfl (.pickT (bo g39) rfl) ?_
          refine RunT.nil ?_
          refine T.condT rfl ?_
          refine T.seq ?_
          refine T.region ?_
          refine RunT.ot0 (x := .v (.bool false)) rfl rfl rfl rfl (.assignX rfl) ?_
          refine RunT.nil ?_
          obtain rfl := si H
          have HX := exr HO28
          obtain rfl := si HX
          refine T.sub (sub_to (st' := ⟨[(2, .v (.bool false))], [], 8, []⟩) [] (by decide) rfl rfl (⟨⟨_, rfl, .one .v⟩, trivial⟩) (trivial)) ?_
          refine T.ret ?_
          exact RetOk.same [.v (.bool false)] ⟨rfl, trivial⟩ rfl rfl rfl
        · replace H := cf H g39
          refine RunT.gt0 (x := .ptr 8 2) rfl rfl rfl (bo g39) rfl rfl (.fieldPX fl60_2 rfl rfl) ?_
          refine RunT.gt0 (x := .v (.int .i64 y32.R)) rfl rfl rfl (bo g39) rfl rfl (.loadP ty3 rfl rfl rfl) ?_
          obtain ⟨r40, h41, H⟩ := bs H
          refine RunT.gt0 (x := .v (.bool r40)) rfl rfl rfl (bo g39) rfl rfl (.callp (venue_Reach_pc false k y32.R r40 h41) rfl ⟨(.one .v), trivial⟩ rfl rfl rfl) ?_
          refine RunT.gt0 (x := .v (.bool (!r40))) rfl rfl rfl (bo g39) rfl rfl (.un rfl (fun w => u_not w) rfl) ?_
          refine RunT.ot0 (x := .v (.bool (!r40))) rfl rfl rfl rfl (.pickF (bo g39) rfl) ?_
          refine RunT.nil ?_
          refine T.cond2 (t := !r40) rfl (fun c42 => ?_) (fun c42 => ?_)
          · replace H := ct H c42
            refine T.seq ?_
            refine T.region ?_
            refine RunT.ot0 (x := .v (.bool false)) rfl rfl rfl rfl (.assignX rfl) ?_
            refine RunT.nil ?_
            obtain rfl := si H
            have HX := exr HO28
            obtain rfl := si HX
            refine T.sub (sub_to (st' := ⟨[(2, .v (.bool false))], [], 8, []⟩) [] (by decide) rfl rfl (⟨⟨_, rfl, .one .v⟩, trivial⟩) (trivial)) ?_
            refine T.ret ?_
            exact RetOk.same [.v (.bool false)] ⟨rfl, trivial⟩ rfl rfl rfl
          · replace H := cf H c42
            refine T.skip ?_
            refine T.region ?_
            refine RunT.ot0 (x := .v (.int .i64 (wr (v30 + 1)))) rfl rfl rfl rfl (.bin rfl rfl (fun w => b_addw w) rfl) ?_
            refine RunT.ot0 (x := .v (.int .i64 (wr (v30 + 1)))) rfl rfl rfl rfl (.moveX rfl) ?_
            refine RunT.nil ?_
            exact ⟨n, Nat.lt_succ_self n, _, ⟨wr (v30 + 1), H, rfl⟩, (sub_to [] (by decide) rfl rfl (⟨⟨_, rfl, .one .lst⟩, ⟨⟨_, rfl, .one .lst⟩, ⟨⟨_, rfl, .one .v⟩, ⟨⟨_, rfl, .one .v⟩, trivial⟩⟩⟩⟩) (trivial))⟩
    · replace H := cf H c31
      refine T.exit ?_
      obtain rfl := si H
      exact ⟨_, rfl, (sub_to [] (by decide) rfl rfl (⟨⟨_, rfl, .one .lst⟩, trivial⟩) (trivial))⟩
  · intro v29 s hR hS
    subst hR
    have H := exg HO28
    refine T.sub hS ?_
    refine T.seq ?_
    refine T.sub (sub_pick [0] [] (st' := ⟨[(0, .lst (List.map ePole a0))], [], 8, []⟩) rfl rfl rfl rfl rfl) ?_
    refine T.region ?_
    refine RunT.ot0 (x := .lst (List.map ePole a0)) rfl rfl rfl rfl (.moveX rfl) ?_
    refine RunT.ot0 (x := .v (.int .i64 (a0.length : Int))) rfl rfl rfl rfl (.lenLm Try.underlying24 rfl rfl) ?_
    refine RunT.ot0 (x := .v (.bool (decide ((a0.length : Int) ≤ 200)))) rfl rfl rfl rfl (.bin rfl rfl (fun w => b_leq w) rfl) ?_
    refine RunT.ot0 (x := .v (.bool (decide ((a0.length : Int) ≤ 200)))) rfl rfl rfl rfl (.assignX rfl) ?_
    refine RunT.nil ?_
    obtain rfl := si H
    refine T.sub (sub_to (st' := ⟨[(2, .v (.bool (decide ((a0.length : Int) ≤ 200))))], [], 8, []⟩) [] (by decide) rfl rfl (⟨⟨_, rfl, .one .v⟩, trivial⟩) (trivial)) ?_
    refine T.ret ?_
    exact RetOk.same [.v (.bool (decide ((a0.length : Int) ≤ 200)))] ⟨rfl, trivial⟩ rfl rfl rfl
set_option maxHeartbeats 4000000 in
theorem venue_Wrong_pc (al : Bool) (k : Nat) (a0 : Venue) (o : ByteArray) (H : venue_Wrong k a0 = some o) : PC Try.prog al 131 [.agg [.lst (List.map eSeat a0.Seats), .v (.int .i64 a0.Gap), .v (.int .i64 a0.Radius), .lst (List.map eI a0.Kills), .lst (List.map ePole a0.Poles)]] (.v (.string o)) := by
  unfold venue_Wrong at H
  refine PC.of_T Try.func131 rfl rfl (n := 31) rfl rfl (.inr rfl) ?_
  intro base B w0
  refine T.st (st' := ⟨[(0, .agg [.lst (List.map eSeat a0.Seats), .v (.int .i64 a0.Gap), .v (.int .i64 a0.Radius), .lst (List.map eI a0.Kills), .lst (List.map ePole a0.Poles)])], [], 0, []⟩) rfl ?_
  refine T.seq ?_
  refine T.region ?_
  refine RunT.ot1 (x := .ptr 0 0) (p0 := (0, some (.box [.lst (List.map eSeat a0.Seats), .v (.int .i64 a0.Gap), .v (.int .i64 a0.Radius), .lst (List.map eI a0.Kills), .lst (List.map ePole a0.Poles)]))) (n' := 8) rfl rfl rfl rfl (.boxX rfl rfl rfl) rfl ?_
  refine RunT.ot0 (x := .v (.string (⟨#[]⟩ : ByteArray))) rfl rfl rfl rfl (.assignX rfl) ?_
  refine RunT.nil ?_
  refine T.seq ?_
  refine T.block ?_
  refine T.seq ?_
  refine T.region ?_
  refine RunT.ot0 (x := .ptr 0 0) rfl rfl rfl rfl (.fieldPX fl26_0 rfl rfl) ?_
  refine RunT.ot0 (x := .lst (List.map eSeat a0.Seats)) rfl rfl rfl rfl (.loadP ty22 rfl rfl rfl) ?_
  obtain ⟨r1, h2, H⟩ := bs H
  refine RunT.ot0 (x := .v (.bool r1)) rfl rfl rfl rfl (.callp (venue_seats_pc false k a0.Seats r1 h2) rfl ⟨(.one .lst), trivial⟩ rfl rfl rfl) ?_
  refine RunT.ot0 (x := .v (.bool (!r1))) rfl rfl rfl rfl (.un rfl (fun w => u_not w) rfl) ?_
  refine RunT.ot0 (x := .v (.bool (!r1))) rfl rfl rfl rfl (.assignX rfl) ?_
  refine RunT.nil ?_
  refine T.cond2 (t := !r1) rfl (fun c3 => ?_) (fun c3 => ?_)
  · replace H := ct H c3
    refine T.seq ?_
    refine T.region ?_
    refine RunT.ot0 (x := .v (.string (⟨#[115, 101, 97, 116, 115]⟩ : ByteArray))) rfl rfl rfl rfl (.assignX rfl) ?_
    refine RunT.nil ?_
    obtain rfl := si H
    refine T.sub (sub_to (st' := ⟨[(2, .v (.string (⟨#[115, 101, 97, 116, 115]⟩ : ByteArray)))], [], 8, []⟩) [] (by decide) rfl rfl (⟨⟨_, rfl, .one .v⟩, trivial⟩) (trivial)) ?_
    refine T.ret ?_
    exact RetOk.same [.v (.string (⟨#[115, 101, 97, 116, 115]⟩ : ByteArray))] ⟨rfl, trivial⟩ rfl rfl rfl
  · replace H := cf H c3
    refine T.seq ?_
    refine T.region ?_
    refine RunT.ot0 (x := .ptr 0 1) rfl rfl rfl rfl (.fieldPX fl26_1 rfl rfl) ?_
    refine RunT.ot0 (x := .v (.int .i64 a0.Gap)) rfl rfl rfl rfl (.loadP ty3 rfl rfl rfl) ?_
    obtain ⟨r4, h5, H⟩ := bs H
    refine RunT.ot0 (x := .v (.bool r4)) rfl rfl rfl rfl (.callp (venue_Reach_pc false k a0.Gap r4 h5) rfl ⟨(.one .v), trivial⟩ rfl rfl rfl) ?_
    refine RunT.ot0 (x := .v (.bool (!r4))) rfl rfl rfl rfl (.un rfl (fun w => u_not w) rfl) ?_
    refine RunT.ot0 (x := .v (.bool (!r4))) rfl rfl rfl rfl (.assignX rfl) ?_
    refine RunT.nil ?_
    refine T.cond2 (t := !r4) rfl (fun c6 => ?_) (fun c6 => ?_)
    · replace H := ct H c6
      refine T.seq ?_
      refine T.region ?_
      refine RunT.ot0 (x := .v (.string (⟨#[103, 97, 112]⟩ : ByteArray))) rfl rfl rfl rfl (.assignX rfl) ?_
      refine RunT.nil ?_
      obtain rfl := si H
      refine T.sub (sub_to (st' := ⟨[(2, .v (.string (⟨#[103, 97, 112]⟩ : ByteArray)))], [], 8, []⟩) [] (by decide) rfl rfl (⟨⟨_, rfl, .one .v⟩, trivial⟩) (trivial)) ?_
      refine T.ret ?_
      exact RetOk.same [.v (.string (⟨#[103, 97, 112]⟩ : ByteArray))] ⟨rfl, trivial⟩ rfl rfl rfl
    · replace H := cf H c6
      refine T.seq ?_
      refine T.region ?_
      refine RunT.ot0 (x := .ptr 0 2) rfl rfl rfl rfl (.fieldPX fl26_2 rfl rfl) ?_
      refine RunT.ot0 (x := .v (.int .i64 a0.Radius)) rfl rfl rfl rfl (.loadP ty3 rfl rfl rfl) ?_
      obtain ⟨r7, h8, H⟩ := bs H
      refine RunT.ot0 (x := .v (.bool r7)) rfl rfl rfl rfl (.callp (venue_in_pc false k a0.Radius 0 1048576 r7 h8) rfl ⟨(.one .v), (.one .v), (.one .v), trivial⟩ rfl rfl rfl) ?_
      refine RunT.ot0 (x := .v (.bool (!r7))) rfl rfl rfl rfl (.un rfl (fun w => u_not w) rfl) ?_
      refine RunT.ot0 (x := .v (.bool (!r7))) rfl rfl rfl rfl (.assignX rfl) ?_
      refine RunT.nil ?_
      refine T.cond2 (t := !r7) rfl (fun c9 => ?_) (fun c9 => ?_)
      · replace H := ct H c9
        refine T.seq ?_
        refine T.sub (sub_pick [] [] (st' := ⟨[], [], 8, []⟩) rfl rfl rfl rfl rfl) ?_
        refine T.region ?_
        refine RunT.ot0 (x := .v (.string (⟨#[114, 97, 100, 105, 117, 115]⟩ : ByteArray))) rfl rfl rfl rfl (.assignX rfl) ?_
        refine RunT.nil ?_
        obtain rfl := si H
        refine T.sub (sub_to (st' := ⟨[(2, .v (.string (⟨#[114, 97, 100, 105, 117, 115]⟩ : ByteArray)))], [], 8, []⟩) [] (by decide) rfl rfl (⟨⟨_, rfl, .one .v⟩, trivial⟩) (trivial)) ?_
        refine T.ret ?_
        exact RetOk.same [.v (.string (⟨#[114, 97, 100, 105, 117, 115]⟩ : ByteArray))] ⟨rfl, trivial⟩ rfl rfl rfl
      · replace H := cf H c9
        refine T.seq ?_
        refine T.region ?_
        refine RunT.ot0 (x := .ptr 0 3) rfl rfl rfl rfl (.fieldPX fl26_3 rfl rfl) ?_
        refine RunT.ot0 (x := .lst (List.map eI a0.Kills)) rfl rfl rfl rfl (.loadP ty23 rfl rfl rfl) ?_
        refine RunT.ot0 (x := .ptr 0 0) rfl rfl rfl rfl (.fieldPX fl26_0 rfl rfl) ?_
        refine RunT.ot0 (x := .lst (List.map eSeat a0.Seats)) rfl rfl rfl rfl (.loadP ty22 rfl rfl rfl) ?_
        refine RunT.ot0 (x := .v (.int .i64 (a0.Seats.length : Int))) rfl rfl rfl rfl (.lenLm Try.underlying22 rfl rfl) ?_
        obtain ⟨r10, h11, H⟩ := bs H
        refine RunT.ot0 (x := .v (.bool r10)) rfl rfl rfl rfl (.callp (venue_kills_pc false k a0.Kills (a0.Seats.length : Int) r10 h11) rfl ⟨(.one .lst), (.one .v), trivial⟩ rfl rfl rfl) ?_
        refine RunT.ot0 (x := .v (.bool (!r10))) rfl rfl rfl rfl (.un rfl (fun w => u_not w) rfl) ?_
        refine RunT.ot0 (x := .v (.bool (!r10))) rfl rfl rfl rfl (.assignX rfl) ?_
        refine RunT.nil ?_
        refine T.cond2 (t := !r10) rfl (fun c12 => ?_) (fun c12 => ?_)
        · replace H := ct H c12
          refine T.seq ?_
          refine T.region ?_
          refine RunT.ot0 (x := .v (.string (⟨#[107, 105, 108, 108, 115]⟩ : ByteArray))) rfl rfl rfl rfl (.assignX rfl) ?_
          refine RunT.nil ?_
          obtain rfl := si H
          refine T.sub (sub_to (st' := ⟨[(2, .v (.string (⟨#[107, 105, 108, 108, 115]⟩ : ByteArray)))], [], 8, []⟩) [] (by decide) rfl rfl (⟨⟨_, rfl, .one .v⟩, trivial⟩) (trivial)) ?_
          refine T.ret ?_
          exact RetOk.same [.v (.string (⟨#[107, 105, 108, 108, 115]⟩ : ByteArray))] ⟨rfl, trivial⟩ rfl rfl rfl
        · replace H := cf H c12
          refine T.seq ?_
          refine T.region ?_
          refine RunT.ot0 (x := .ptr 0 4) rfl rfl rfl rfl (.fieldPX fl26_4 rfl rfl) ?_
          refine RunT.ot0 (x := .lst (List.map ePole a0.Poles)) rfl rfl rfl rfl (.loadP ty24 rfl rfl rfl) ?_
          obtain ⟨r13, h14, H⟩ := bs H
          refine RunT.ot0 (x := .v (.bool r13)) rfl rfl rfl rfl (.callp (venue_poles_pc false k a0.Poles r13 h14) rfl ⟨(.one .lst), trivial⟩ rfl rfl rfl) ?_
          refine RunT.ot0 (x := .v (.bool (!r13))) rfl rfl rfl rfl (.un rfl (fun w => u_not w) rfl) ?_
          refine RunT.ot0 (x := .v (.bool (!r13))) rfl rfl rfl rfl (.assignX rfl) ?_
          refine RunT.nil ?_
          refine T.cond2 (t := !r13) rfl (fun c15 => ?_) (fun c15 => ?_)
          · replace H := ct H c15
            refine T.seq ?_
            refine T.region ?_
            refine RunT.ot0 (x := .v (.string (⟨#[112, 111, 108, 101, 115]⟩ : ByteArray))) rfl rfl rfl rfl (.assignX rfl) ?_
            refine RunT.nil ?_
            obtain rfl := si H
            refine T.sub (sub_to (st' := ⟨[(2, .v (.string (⟨#[112, 111, 108, 101, 115]⟩ : ByteArray)))], [], 8, []⟩) [] (by decide) rfl rfl (⟨⟨_, rfl, .one .v⟩, trivial⟩) (trivial)) ?_
            refine T.ret ?_
            exact RetOk.same [.v (.string (⟨#[112, 111, 108, 101, 115]⟩ : ByteArray))] ⟨rfl, trivial⟩ rfl rfl rfl
          · replace H := cf H c15
            refine T.skip ?_
            refine T.seq ?_
            refine T.sub (sub_pick [] [] (st' := ⟨[], [], 8, []⟩) rfl rfl rfl rfl rfl) ?_
            refine T.region ?_
            refine RunT.ot0 (x := .v (.string (⟨#[]⟩ : ByteArray))) rfl rfl rfl rfl (.assignX rfl) ?_
            refine RunT.nil ?_
            obtain rfl := si H
            refine T.sub (sub_to (st' := ⟨[(2, .v (.string (⟨#[]⟩ : ByteArray)))], [], 8, []⟩) [] (by decide) rfl rfl (⟨⟨_, rfl, .one .v⟩, trivial⟩) (trivial)) ?_
            refine T.ret ?_
            exact RetOk.same [.v (.string (⟨#[]⟩ : ByteArray))] ⟨rfl, trivial⟩ rfl rfl rfl
set_option maxHeartbeats 4000000 in
theorem venue_May_pc (al : Bool) (k : Nat) (a0 : Venue) (o : Bool) (H : venue_May k a0 = some o) : PC Try.prog al 92 [.agg [.lst (List.map eSeat a0.Seats), .v (.int .i64 a0.Gap), .v (.int .i64 a0.Radius), .lst (List.map eI a0.Kills), .lst (List.map ePole a0.Poles)]] (.v (.bool o)) := by
  unfold venue_May at H
  refine PC.of_T Try.func92 rfl rfl (n := 6) rfl rfl (.inr rfl) ?_
  intro base B w0
  refine T.st (st' := ⟨[(0, .agg [.lst (List.map eSeat a0.Seats), .v (.int .i64 a0.Gap), .v (.int .i64 a0.Radius), .lst (List.map eI a0.Kills), .lst (List.map ePole a0.Poles)])], [], 0, []⟩) rfl ?_
  refine T.seq ?_
  refine T.region ?_
  refine RunT.ot1 (x := .ptr 0 0) (p0 := (0, some (.box [.lst (List.map eSeat a0.Seats), .v (.int .i64 a0.Gap), .v (.int .i64 a0.Radius), .lst (List.map eI a0.Kills), .lst (List.map ePole a0.Poles)]))) (n' := 8) rfl rfl rfl rfl (.boxX rfl rfl rfl) rfl ?_
  refine RunT.ot0 (x := .v (.bool false)) rfl rfl rfl rfl (.assignX rfl) ?_
  refine RunT.nil ?_
  refine T.seq ?_
  refine T.region ?_
  refine RunT.ot0 (x := .agg [.lst (List.map eSeat a0.Seats), .v (.int .i64 a0.Gap), .v (.int .i64 a0.Radius), .lst (List.map eI a0.Kills), .lst (List.map ePole a0.Poles)]) rfl rfl rfl rfl (.loadP ty26 rfl rfl rfl) ?_
  obtain ⟨r1, h2, H⟩ := bs H
  refine RunT.ot0 (x := .v (.string r1)) rfl rfl rfl rfl (.callp (venue_Wrong_pc false k a0 r1 h2) rfl ⟨(.agg' ⟨.lst, .v, .v, .lst, .lst, trivial⟩), trivial⟩ rfl rfl rfl) ?_
  refine RunT.ot0 (x := .v (.bool (r1 == (⟨#[]⟩ : ByteArray)))) rfl rfl rfl rfl (.bin rfl rfl (fun w => eqStr w) rfl) ?_
  refine RunT.ot0 (x := .v (.bool (r1 == (⟨#[]⟩ : ByteArray)))) rfl rfl rfl rfl (.assignX rfl) ?_
  refine RunT.nil ?_
  obtain rfl := si H
  refine T.sub (sub_to (st' := ⟨[(2, .v (.bool (r1 == (⟨#[]⟩ : ByteArray))))], [], 8, []⟩) [] (by decide) rfl rfl (⟨⟨_, rfl, .one .v⟩, trivial⟩) (trivial)) ?_
  refine T.ret ?_
  exact RetOk.same [.v (.bool (r1 == (⟨#[]⟩ : ByteArray)))] ⟨rfl, trivial⟩ rfl rfl rfl
set_option maxHeartbeats 4000000 in
theorem geom_Far_pc (al : Bool) (k : Nat) (a0 : Seat) (a1 : Seat) (o : Int) (H : geom_Far k a0 a1 = some o) : PC Try.prog al 30 [.agg [.v (.int .i64 a0.Row), .v (.int .i64 a0.X), .v (.int .i64 a0.Y), .v (.int .i64 a0.Kind)], .agg [.v (.int .i64 a1.Row), .v (.int .i64 a1.X), .v (.int .i64 a1.Y), .v (.int .i64 a1.Kind)]] (.v (.int .i64 o)) := by
  unfold geom_Far at H
  refine PC.of_T Try.func30 rfl rfl (n := 45) rfl rfl (.inr rfl) ?_
  intro base B w0
  refine T.st (st' := ⟨[(0, .agg [.v (.int .i64 a0.Row), .v (.int .i64 a0.X), .v (.int .i64 a0.Y), .v (.int .i64 a0.Kind)]), (1, .agg [.v (.int .i64 a1.Row), .v (.int .i64 a1.X), .v (.int .i64 a1.Y), .v (.int .i64 a1.Kind)])], [], 0, []⟩) rfl ?_
  refine T.seq ?_
  refine T.region ?_
  refine RunT.ot1 (x := .ptr 0 0) (p0 := (0, some (.box [.v (.int .i64 a0.Row), .v (.int .i64 a0.X), .v (.int .i64 a0.Y), .v (.int .i64 a0.Kind)]))) (n' := 8) rfl rfl rfl rfl (.boxX rfl rfl rfl) rfl ?_
  refine RunT.ot1 (x := .ptr 8 0) (p0 := (8, some (.box [.v (.int .i64 a1.Row), .v (.int .i64 a1.X), .v (.int .i64 a1.Y), .v (.int .i64 a1.Kind)]))) (n' := 16) rfl rfl rfl rfl (.boxX rfl rfl rfl) rfl ?_
  refine RunT.ot0 (x := .v (.int .i64 0)) rfl rfl rfl rfl (.assignX rfl) ?_
  refine RunT.nil ?_
  refine T.seq ?_
  refine T.seq ?_
  refine T.region ?_
  refine RunT.ot0 (x := .agg [.v (.int .i64 a0.Row), .v (.int .i64 a0.X), .v (.int .i64 a0.Y), .v (.int .i64 a0.Kind)]) rfl rfl rfl rfl (.loadP ty28 rfl rfl rfl) ?_
  refine RunT.ot0 (x := .agg [.v (.int .i64 a1.Row), .v (.int .i64 a1.X), .v (.int .i64 a1.Y), .v (.int .i64 a1.Kind)]) rfl rfl rfl rfl (.loadP ty28 rfl rfl rfl) ?_
  refine RunT.ot1 (x := .own 16 0 (([a0, a1]).length)) (p0 := (16, some (.arr false 4 (List.map eSeat [a0, a1])))) (n' := 24) rfl rfl rfl rfl (.bslicem (d := false) (l := [a0, a1]) (f := eSeat) sl22 rfl rfl rfl enc_Seat rfl) rfl ?_
  refine RunT.ot0 (x := .v (.int .i64 (([a0, a1]).length : Int))) rfl rfl rfl rfl (.lenON rfl Try.underlying22 rfl rfl) ?_
  refine RunT.ot0 (x := .v (.int .i64 0)) rfl rfl rfl rfl (.moveX rfl) ?_
  refine RunT.nil ?_
  obtain ⟨o20, E21, HO22⟩ := bs H
  refine T.cutPE (fun v23 => o20 = .go v23) (fun v23 => ⟨[(2, .ptr 0 0), (3, .ptr 1 0)], [(0, some (.box [.v (.int .i64 a0.Row), .v (.int .i64 a0.X), .v (.int .i64 a0.Y), .v (.int .i64 a0.Kind)])), (1, some (.box [.v (.int .i64 a1.Row), .v (.int .i64 a1.X), .v (.int .i64 a1.Y), .v (.int .i64 a1.Kind)]))], 8, []⟩) ?_ ?_
  · have H := E21
    refine T.block ?_
    refine T.loopS (fun n s => ∃ (v24 : Int), geom_Far_l0 k a0 a1 n v24 = some o20 ∧ s = ⟨[(2, .ptr 0 0), (3, .ptr 1 0), (11, .own 2 0 (([a0, a1]).length)), (12, .v (.int .i64 (([a0, a1]).length : Int))), (13, .v (.int .i64 v24))], [(0, some (.box [.v (.int .i64 a0.Row), .v (.int .i64 a0.X), .v (.int .i64 a0.Y), .v (.int .i64 a0.Kind)])), (1, some (.box [.v (.int .i64 a1.Row), .v (.int .i64 a1.X), .v (.int .i64 a1.Y), .v (.int .i64 a1.Kind)])), (2, some (.arr false 4 (List.map eSeat [a0, a1])))], 8, []⟩) k ⟨_, ⟨0, H, rfl⟩, sub_to [some 0, some 8, some 16] (by decide) rfl rfl (⟨⟨_, rfl, .one (.ptr rfl)⟩, ⟨⟨_, rfl, .one (.ptr rfl)⟩, ⟨⟨_, rfl, .one (.own rfl)⟩, ⟨⟨_, rfl, .one .v⟩, ⟨⟨_, rfl, .one .v⟩, trivial⟩⟩⟩⟩⟩) (⟨⟨rfl, .inl ⟨_, _, rfl, rfl, .box ⟨.v, .v, .v, .v, trivial⟩⟩⟩, ⟨⟨rfl, .inl ⟨_, _, rfl, rfl, .box ⟨.v, .v, .v, .v, trivial⟩⟩⟩, ⟨⟨rfl, .inl ⟨_, _, rfl, rfl, .arr rfl⟩⟩, trivial⟩⟩⟩)⟩ ?_
    rintro n s ⟨v24, H, rfl⟩
    rcases n with _ | n
    · cases (show none = some _ from H)
    rw [geom_Far_l0] at H
    refine T.seq ?_
    refine T.region ?_
    refine RunT.ot0 (x := .v (.bool (decide (v24 < (([a0, a1]).length : Int))))) rfl rfl rfl rfl (.bin rfl rfl (fun w => b_lss w) rfl) ?_
    refine RunT.nil ?_
    refine T.seq ?_
    refine T.cond2 (t := decide (v24 < (([a0, a1]).length : Int))) rfl (fun c25 => ?_) (fun c25 => ?_)
    · replace H := ct H c25
      refine T.skip ?_
      refine T.seq ?_
      refine T.block ?_
      refine T.seq ?_
      refine T.region ?_
      obtain ⟨y26, h27, H⟩ := bs H
      refine RunT.ot0 (x := .eptr 2 v24.toNat 0) rfl rfl rfl rfl (.idxOn rfl sl22 rfl rfl rfl h27) ?_
      refine RunT.ot0 (x := .agg [.v (.int .i64 y26.Row), .v (.int .i64 y26.X), .v (.int .i64 y26.Y), .v (.int .i64 y26.Kind)]) rfl rfl rfl rfl (.loadEm ty28 rfl rfl (ixs h27).2.1 rfl) ?_
      refine RunT.ot1 (x := .ptr 8 0) (p0 := (8, some (.box [.v (.int .i64 0), .v (.int .i64 0), .v (.int .i64 0), .v (.int .i64 0)]))) (n' := 16) rfl rfl rfl rfl (.allocX in28.zero rfl rfl) rfl ?_
      refine RunT.on1 (x := .junk) (p0 := (8, some (.box [.v (.int .i64 y26.Row), .v (.int .i64 y26.X), .v (.int .i64 y26.Y), .v (.int .i64 y26.Kind)]))) (n' := 24) rfl rfl rfl (.storePX ty28 rfl rfl rfl rfl rfl rfl rfl) rfl ?_
      refine RunT.nil ?_
      refine T.seq ?_
      refine T.region ?_
      refine RunT.ot0 (x := .ptr 8 1) rfl rfl rfl rfl (.fieldPX fl28_1 rfl rfl) ?_
      refine RunT.ot0 (x := .v (.int .i64 y26.X)) rfl rfl rfl rfl (.loadP ty3 rfl rfl rfl) ?_
      obtain ⟨r28, h29, H⟩ := bs H
      refine RunT.ot0 (x := .v (.bool r28)) rfl rfl rfl rfl (.callp (venue_Coord_pc false k y26.X r28 h29) rfl ⟨(.one .v), trivial⟩ rfl rfl rfl) ?_
      refine RunT.ot0 (x := .v (.bool (!r28))) rfl rfl rfl rfl (.un rfl (fun w => u_not w) rfl) ?_
      refine RunT.ot0 (x := .v (.bool (!r28))) rfl rfl rfl rfl (.moveX rfl) ?_
      refine RunT.cases (t := 21) (c := !r28) rfl (fun g30 => ?_) (fun g30 => ?_)
      · replace H := ct H g30
        refine RunT.xn rfl rfl rfl (bo g30) rfl rfl ?_
        refine RunT.xn rfl rfl rfl (bo g30) rfl rfl ?_
        refine RunT.xn rfl rfl rfl (bo g30) rfl rfl ?_
        refine RunT.xn rfl rfl rfl (bo g30) rfl rfl ?_
        refine RunT.ot0 (x := .v (.bool true)) rfl rfl rfl rfl (.pickT (bo g30) rfl) ?_
        refine RunT.nil ?_
        refine T.condT rfl ?_
        refine T.seq ?_
        refine T.sub (sub_pick [] [] (st' := ⟨[], [], 24, []⟩) rfl rfl rfl rfl rfl) ?_
        refine T.region ?_
        refine RunT.ot0 (x := .v (.int .i64 0)) rfl rfl rfl rfl (.assignX rfl) ?_
        refine RunT.nil ?_
        obtain rfl := si H
        have HX := exr HO22
        obtain rfl := si HX
        refine T.sub (sub_to (st' := ⟨[(4, .v (.int .i64 0))], [], 8, []⟩) [] (by decide) rfl rfl (⟨⟨_, rfl, .one .v⟩, trivial⟩) (trivial)) ?_
        refine T.ret ?_
        exact RetOk.same [.v (.int .i64 0)] ⟨rfl, trivial⟩ rfl rfl rfl
      · replace H := cf H g30
        refine RunT.gt0 (x := .ptr 8 2) rfl rfl rfl (bo g30) rfl rfl (.fieldPX fl28_2 rfl rfl) ?_
        refine RunT.gt0 (x := .v (.int .i64 y26.Y)) rfl rfl rfl (bo g30) rfl rfl (.loadP ty3 rfl rfl rfl) ?_
        obtain ⟨r31, h32, H⟩ := bs H
        refine RunT.gt0 (x := .v (.bool r31)) rfl rfl rfl (bo g30) rfl rfl (.callp (venue_Coord_pc false k y26.Y r31 h32) rfl ⟨(.one .v), trivial⟩ rfl rfl rfl) ?_
        refine RunT.gt0 (x := .v (.bool (!r31))) rfl rfl rfl (bo g30) rfl rfl (.un rfl (fun w => u_not w) rfl) ?_
        refine RunT.ot0 (x := .v (.bool (!r31))) rfl rfl rfl rfl (.pickF (bo g30) rfl) ?_
        refine RunT.nil ?_
        refine T.cond2 (t := !r31) rfl (fun c33 => ?_) (fun c33 => ?_)
        · replace H := ct H c33
          refine T.seq ?_
          refine T.region ?_
          refine RunT.ot0 (x := .v (.int .i64 0)) rfl rfl rfl rfl (.assignX rfl) ?_
          refine RunT.nil ?_
          obtain rfl := si H
          have HX := exr HO22
          obtain rfl := si HX
          refine T.sub (sub_to (st' := ⟨[(4, .v (.int .i64 0))], [], 8, []⟩) [] (by decide) rfl rfl (⟨⟨_, rfl, .one .v⟩, trivial⟩) (trivial)) ?_
          refine T.ret ?_
          exact RetOk.same [.v (.int .i64 0)] ⟨rfl, trivial⟩ rfl rfl rfl
        · replace H := cf H c33
          refine T.skip ?_
          refine T.region ?_
          refine RunT.ot0 (x := .v (.int .i64 (wr (v24 + 1)))) rfl rfl rfl rfl (.bin rfl rfl (fun w => b_addw w) rfl) ?_
          refine RunT.ot0 (x := .v (.int .i64 (wr (v24 + 1)))) rfl rfl rfl rfl (.moveX rfl) ?_
          refine RunT.nil ?_
          exact ⟨n, Nat.lt_succ_self n, _, ⟨wr (v24 + 1), H, rfl⟩, (sub_to [some 0, some 1, some 2] (by decide) rfl rfl (⟨⟨_, rfl, .one (.ptr rfl)⟩, ⟨⟨_, rfl, .one (.ptr rfl)⟩, ⟨⟨_, rfl, .one (.own rfl)⟩, ⟨⟨_, rfl, .one .v⟩, ⟨⟨_, rfl, .one .v⟩, trivial⟩⟩⟩⟩⟩) (⟨⟨rfl, .inl ⟨_, _, rfl, rfl, .box ⟨.v, .v, .v, .v, trivial⟩⟩⟩, ⟨⟨rfl, .inl ⟨_, _, rfl, rfl, .box ⟨.v, .v, .v, .v, trivial⟩⟩⟩, ⟨⟨rfl, .inl ⟨_, _, rfl, rfl, .arr rfl⟩⟩, trivial⟩⟩⟩))⟩
    · replace H := cf H c25
      refine T.exit ?_
      obtain rfl := si H
      exact ⟨_, rfl, (sub_to [some 0, some 1] (by decide) rfl rfl (⟨⟨_, rfl, .one (.ptr rfl)⟩, ⟨⟨_, rfl, .one (.ptr rfl)⟩, trivial⟩⟩) (⟨⟨rfl, .inl ⟨_, _, rfl, rfl, .box ⟨.v, .v, .v, .v, trivial⟩⟩⟩, ⟨⟨rfl, .inl ⟨_, _, rfl, rfl, .box ⟨.v, .v, .v, .v, trivial⟩⟩⟩, trivial⟩⟩))⟩
  · intro v23 s hR hS
    subst hR
    have H := exg HO22
    refine T.sub hS ?_
    refine T.seq ?_
    refine T.draw (wr := []) mixed rfl rfl ?_ rfl
    refine RunD.ot0 (x := .ptr 0 1) rfl rfl rfl rfl (.fieldPX fl28_1 rfl rfl) rfl ?_
    refine RunD.ot0 (x := .v (.int .i64 a0.X)) rfl rfl rfl rfl (.loadP ty3 rfl rfl rfl) rfl ?_
    refine RunD.ot0 (x := .ptr 1 1) rfl rfl rfl rfl (.fieldPX fl28_1 rfl rfl) rfl ?_
    refine RunD.ot0 (x := .v (.int .i64 a1.X)) rfl rfl rfl rfl (.loadP ty3 rfl rfl rfl) rfl ?_
    refine RunD.ot0 (x := .v (.int .i64 (wr (a0.X - a1.X)))) rfl rfl rfl rfl (.bin rfl rfl (fun w => b_subw w) rfl) rfl ?_
    refine RunD.ot0 (x := .ptr 0 2) rfl rfl rfl rfl (.fieldPX fl28_2 rfl rfl) rfl ?_
    refine RunD.ot0 (x := .v (.int .i64 a0.Y)) rfl rfl rfl rfl (.loadP ty3 rfl rfl rfl) rfl ?_
    refine RunD.ot0 (x := .ptr 1 2) rfl rfl rfl rfl (.fieldPX fl28_2 rfl rfl) rfl ?_
    refine RunD.ot0 (x := .v (.int .i64 a1.Y)) rfl rfl rfl rfl (.loadP ty3 rfl rfl rfl) rfl ?_
    refine RunD.ot0 (x := .v (.int .i64 (wr (a0.Y - a1.Y)))) rfl rfl rfl rfl (.bin rfl rfl (fun w => b_subw w) rfl) rfl ?_
    refine RunD.ot0 (x := .v (.int .i64 (wr (a0.X - a1.X)))) rfl rfl rfl rfl (.assignX rfl) rfl ?_
    refine RunD.ot0 (x := .v (.int .i64 (wr (a0.Y - a1.Y)))) rfl rfl rfl rfl (.assignX rfl) rfl ?_
    refine RunD.nil (by kernel_rfl) ⟨rfl, rfl, ?_⟩
    refine T.seq ?_
    refine T.sub (sub_pick [7, 8] [] (st' := ⟨[(7, .v (.int .i64 (wr (a0.X - a1.X)))), (8, .v (.int .i64 (wr (a0.Y - a1.Y))))], [], 104, []⟩) rfl rfl rfl rfl rfl) ?_
    refine T.region ?_
    refine RunT.ot0 (x := .v (.int .i64 (wr (a0.X - a1.X)))) rfl rfl rfl rfl (.moveX rfl) ?_
    refine RunT.ot0 (x := .v (.int .i64 (wr (a0.X - a1.X)))) rfl rfl rfl rfl (.moveX rfl) ?_
    refine RunT.ot0 (x := .v (.int .i64 (wr ((wr (a0.X - a1.X)) * (wr (a0.X - a1.X)))))) rfl rfl rfl rfl (.bin rfl rfl (fun w => b_mulw w) rfl) ?_
    refine RunT.ot0 (x := .v (.int .i64 (wr (a0.Y - a1.Y)))) rfl rfl rfl rfl (.moveX rfl) ?_
    refine RunT.ot0 (x := .v (.int .i64 (wr (a0.Y - a1.Y)))) rfl rfl rfl rfl (.moveX rfl) ?_
    refine RunT.ot0 (x := .v (.int .i64 (wr ((wr (a0.Y - a1.Y)) * (wr (a0.Y - a1.Y)))))) rfl rfl rfl rfl (.bin rfl rfl (fun w => b_mulw w) rfl) ?_
    refine RunT.ot0 (x := .v (.int .i64 (wr ((wr ((wr (a0.X - a1.X)) * (wr (a0.X - a1.X)))) + (wr ((wr (a0.Y - a1.Y)) * (wr (a0.Y - a1.Y)))))))) rfl rfl rfl rfl (.bin rfl rfl (fun w => b_addw w) rfl) ?_
    refine RunT.ot0 (x := .v (.int .i64 (wr ((wr ((wr (a0.X - a1.X)) * (wr (a0.X - a1.X)))) + (wr ((wr (a0.Y - a1.Y)) * (wr (a0.Y - a1.Y)))))))) rfl rfl rfl rfl (.assignX rfl) ?_
    refine RunT.nil ?_
    obtain rfl := si H
    refine T.sub (sub_to (st' := ⟨[(4, .v (.int .i64 (wr ((wr ((wr (a0.X - a1.X)) * (wr (a0.X - a1.X)))) + (wr ((wr (a0.Y - a1.Y)) * (wr (a0.Y - a1.Y))))))))], [], 8, []⟩) [] (by decide) rfl rfl (⟨⟨_, rfl, .one .v⟩, trivial⟩) (trivial)) ?_
    refine T.ret ?_
    exact RetOk.same [.v (.int .i64 (wr ((wr ((wr (a0.X - a1.X)) * (wr (a0.X - a1.X)))) + (wr ((wr (a0.Y - a1.Y)) * (wr (a0.Y - a1.Y)))))))] ⟨rfl, trivial⟩ rfl rfl rfl
set_option maxHeartbeats 4000000 in
theorem geom_Close_pc (al : Bool) (k : Nat) (a0 : Seat) (a1 : Seat) (a2 : Int) (o : Bool) (H : geom_Close k a0 a1 a2 = some o) : PC Try.prog al 93 [.agg [.v (.int .i64 a0.Row), .v (.int .i64 a0.X), .v (.int .i64 a0.Y), .v (.int .i64 a0.Kind)], .agg [.v (.int .i64 a1.Row), .v (.int .i64 a1.X), .v (.int .i64 a1.Y), .v (.int .i64 a1.Kind)], .v (.int .i64 a2)] (.v (.bool o)) := by
  unfold geom_Close at H
  refine PC.of_T Try.func93 rfl rfl (n := 14) rfl rfl (.inr rfl) ?_
  intro base B w0
  refine T.st (st' := ⟨[(0, .agg [.v (.int .i64 a0.Row), .v (.int .i64 a0.X), .v (.int .i64 a0.Y), .v (.int .i64 a0.Kind)]), (1, .agg [.v (.int .i64 a1.Row), .v (.int .i64 a1.X), .v (.int .i64 a1.Y), .v (.int .i64 a1.Kind)]), (2, .v (.int .i64 a2))], [], 0, []⟩) rfl ?_
  refine T.seq ?_
  refine T.region ?_
  refine RunT.ot1 (x := .ptr 0 0) (p0 := (0, some (.box [.v (.int .i64 a0.Row), .v (.int .i64 a0.X), .v (.int .i64 a0.Y), .v (.int .i64 a0.Kind)]))) (n' := 8) rfl rfl rfl rfl (.boxX rfl rfl rfl) rfl ?_
  refine RunT.ot1 (x := .ptr 8 0) (p0 := (8, some (.box [.v (.int .i64 a1.Row), .v (.int .i64 a1.X), .v (.int .i64 a1.Y), .v (.int .i64 a1.Kind)]))) (n' := 16) rfl rfl rfl rfl (.boxX rfl rfl rfl) rfl ?_
  refine RunT.ot0 (x := .v (.bool false)) rfl rfl rfl rfl (.assignX rfl) ?_
  refine RunT.nil ?_
  refine T.seq ?_
  refine T.region ?_
  refine RunT.ot0 (x := .agg [.v (.int .i64 a0.Row), .v (.int .i64 a0.X), .v (.int .i64 a0.Y), .v (.int .i64 a0.Kind)]) rfl rfl rfl rfl (.loadP ty28 rfl rfl rfl) ?_
  refine RunT.ot0 (x := .agg [.v (.int .i64 a1.Row), .v (.int .i64 a1.X), .v (.int .i64 a1.Y), .v (.int .i64 a1.Kind)]) rfl rfl rfl rfl (.loadP ty28 rfl rfl rfl) ?_
  obtain ⟨r1, h2, H⟩ := bs H
  refine RunT.ot0 (x := .v (.int .i64 r1)) rfl rfl rfl rfl (.callp (geom_Far_pc false k a0 a1 r1 h2) rfl ⟨(.agg' ⟨.v, .v, .v, .v, trivial⟩), (.agg' ⟨.v, .v, .v, .v, trivial⟩), trivial⟩ rfl rfl rfl) ?_
  refine RunT.ot0 (x := .v (.int .i64 a2)) rfl rfl rfl rfl (.moveX rfl) ?_
  refine RunT.ot0 (x := .v (.int .i64 a2)) rfl rfl rfl rfl (.moveX rfl) ?_
  refine RunT.ot0 (x := .v (.int .i64 (wr (a2 * a2)))) rfl rfl rfl rfl (.bin rfl rfl (fun w => b_mulw w) rfl) ?_
  refine RunT.ot0 (x := .v (.bool (decide (r1 < (wr (a2 * a2)))))) rfl rfl rfl rfl (.bin rfl rfl (fun w => b_lss w) rfl) ?_
  refine RunT.ot0 (x := .v (.bool (decide (r1 < (wr (a2 * a2)))))) rfl rfl rfl rfl (.assignX rfl) ?_
  refine RunT.nil ?_
  obtain rfl := si H
  refine T.sub (sub_to (st' := ⟨[(6, .v (.bool (decide (r1 < (wr (a2 * a2))))))], [], 8, []⟩) [] (by decide) rfl rfl (⟨⟨_, rfl, .one .v⟩, trivial⟩) (trivial)) ?_
  refine T.ret ?_
  exact RetOk.same [.v (.bool (decide (r1 < (wr (a2 * a2)))))] ⟨rfl, trivial⟩ rfl rfl rfl
set_option maxHeartbeats 4000000 in
theorem slices_Index_int_pc (al : Bool) (k : Nat) (a0 : (List Int)) (a1 : Int) (o : Int) (H : slices_Index_int k a0 a1 = some o) : PC Try.prog al 147 [.lst (List.map eI a0), .v (.int .i64 a1)] (.v (.int .i64 o)) := by
  unfold slices_Index_int at H
  refine PC.of_T Try.func147 rfl rfl (n := 19) rfl rfl (.inr rfl) ?_
  intro base B w0
  refine T.st (st' := ⟨[(0, .lst (List.map eI a0)), (1, .v (.int .i64 a1))], [], 0, []⟩) rfl ?_
  refine T.seq ?_
  refine T.region ?_
  refine RunT.ot0 (x := .v (.int .i64 0)) rfl rfl rfl rfl (.assignX rfl) ?_
  refine RunT.nil ?_
  refine T.seq ?_
  refine T.seq ?_
  refine T.region ?_
  refine RunT.ot0 (x := .lst (List.map eI a0)) rfl rfl rfl rfl (.moveX rfl) ?_
  refine RunT.ot0 (x := .v (.int .i64 (a0.length : Int))) rfl rfl rfl rfl (.lenLm Try.underlying23 rfl rfl) ?_
  refine RunT.ot0 (x := .v (.int .i64 0)) rfl rfl rfl rfl (.moveX rfl) ?_
  refine RunT.nil ?_
  obtain ⟨o10, E11, HO12⟩ := bs H
  refine T.cutPE (fun v13 => o10 = .go v13) (fun v13 => ⟨[], [], 8, []⟩) ?_ ?_
  · have H := E11
    refine T.block ?_
    refine T.loopS (fun n s => ∃ (v14 : Int), slices_Index_int_l0 k a0 a1 n v14 = some o10 ∧ s = ⟨[(0, .lst (List.map eI a0)), (1, .v (.int .i64 a1)), (7, .v (.int .i64 (a0.length : Int))), (8, .v (.int .i64 v14))], [], 8, []⟩) k ⟨_, ⟨0, H, rfl⟩, sub_to [] (by decide) rfl rfl (⟨⟨_, rfl, .one .lst⟩, ⟨⟨_, rfl, .one .v⟩, ⟨⟨_, rfl, .one .v⟩, ⟨⟨_, rfl, .one .v⟩, trivial⟩⟩⟩⟩) (trivial)⟩ ?_
    rintro n s ⟨v14, H, rfl⟩
    rcases n with _ | n
    · cases (show none = some _ from H)
    rw [slices_Index_int_l0] at H
    refine T.seq ?_
    refine T.region ?_
    refine RunT.ot0 (x := .v (.bool (decide (v14 < (a0.length : Int))))) rfl rfl rfl rfl (.bin rfl rfl (fun w => b_lss w) rfl) ?_
    refine RunT.nil ?_
    refine T.seq ?_
    refine T.cond2 (t := decide (v14 < (a0.length : Int))) rfl (fun c15 => ?_) (fun c15 => ?_)
    · replace H := ct H c15
      refine T.skip ?_
      refine T.seq ?_
      refine T.block ?_
      refine T.seq ?_
      refine T.region ?_
      refine RunT.ot0 (x := .v (.int .i64 v14)) rfl rfl rfl rfl (.moveX rfl) ?_
      refine RunT.ot0 (x := .v (.int .i64 v14)) rfl rfl rfl rfl (.assignX rfl) ?_
      refine RunT.nil ?_
      refine T.seq ?_
      refine T.sub (sub_pick [0, 1, 5, 7, 8] [] (st' := ⟨[(0, .lst (List.map eI a0)), (1, .v (.int .i64 a1)), (5, .v (.int .i64 v14)), (7, .v (.int .i64 (a0.length : Int))), (8, .v (.int .i64 v14))], [], 8, []⟩) rfl rfl rfl rfl rfl) ?_
      refine T.region ?_
      refine RunT.ot0 (x := .v (.int .i64 a1)) rfl rfl rfl rfl (.moveX rfl) ?_
      refine RunT.ot0 (x := .lst (List.map eI a0)) rfl rfl rfl rfl (.moveX rfl) ?_
      refine RunT.ot0 (x := .v (.int .i64 v14)) rfl rfl rfl rfl (.moveX rfl) ?_
      obtain ⟨y16, h17, H⟩ := bs H
      refine RunT.ot0 (x := .rptr [.v (.int .i64 y16)]) rfl rfl rfl rfl (.idxLX h17 enc_I sl23 rfl rfl rfl) ?_
      refine RunT.ot0 (x := .v (.int .i64 y16)) rfl rfl rfl rfl (.loadR ty3 rfl rfl) ?_
      refine RunT.ot0 (x := .v (.bool (decide (a1 = y16)))) rfl rfl rfl rfl (.bin rfl rfl (fun w => b_eql w) rfl) ?_
      refine RunT.nil ?_
      refine T.cond2 (t := decide (a1 = y16)) rfl (fun c18 => ?_) (fun c18 => ?_)
      · replace H := ct H c18
        refine T.seq ?_
        refine T.region ?_
        refine RunT.ot0 (x := .v (.int .i64 v14)) rfl rfl rfl rfl (.moveX rfl) ?_
        refine RunT.ot0 (x := .v (.int .i64 v14)) rfl rfl rfl rfl (.assignX rfl) ?_
        refine RunT.nil ?_
        obtain rfl := si H
        have HX := exr HO12
        obtain rfl := si HX
        refine T.sub (sub_to (st' := ⟨[(4, .v (.int .i64 v14))], [], 8, []⟩) [] (by decide) rfl rfl (⟨⟨_, rfl, .one .v⟩, trivial⟩) (trivial)) ?_
        refine T.ret ?_
        exact RetOk.same [.v (.int .i64 v14)] ⟨rfl, trivial⟩ rfl rfl rfl
      · replace H := cf H c18
        refine T.skip ?_
        refine T.region ?_
        refine RunT.ot0 (x := .v (.int .i64 (wr (v14 + 1)))) rfl rfl rfl rfl (.bin rfl rfl (fun w => b_addw w) rfl) ?_
        refine RunT.ot0 (x := .v (.int .i64 (wr (v14 + 1)))) rfl rfl rfl rfl (.moveX rfl) ?_
        refine RunT.nil ?_
        exact ⟨n, Nat.lt_succ_self n, _, ⟨wr (v14 + 1), H, rfl⟩, (sub_to [] (by decide) rfl rfl (⟨⟨_, rfl, .one .lst⟩, ⟨⟨_, rfl, .one .v⟩, ⟨⟨_, rfl, .one .v⟩, ⟨⟨_, rfl, .one .v⟩, trivial⟩⟩⟩⟩) (trivial))⟩
    · replace H := cf H c15
      refine T.exit ?_
      obtain rfl := si H
      exact ⟨_, rfl, (sub_to [] (by decide) rfl rfl (trivial) (trivial))⟩
  · intro v13 s hR hS
    subst hR
    have H := exg HO12
    refine T.sub hS ?_
    refine T.seq ?_
    refine T.region ?_
    refine RunT.ot0 (x := .v (.int .i64 (-1))) rfl rfl rfl rfl (.assignX rfl) ?_
    refine RunT.nil ?_
    obtain rfl := si H
    refine T.sub (sub_to (st' := ⟨[(4, .v (.int .i64 (-1)))], [], 8, []⟩) [] (by decide) rfl rfl (⟨⟨_, rfl, .one .v⟩, trivial⟩) (trivial)) ?_
    refine T.ret ?_
    exact RetOk.same [.v (.int .i64 (-1))] ⟨rfl, trivial⟩ rfl rfl rfl
set_option maxHeartbeats 4000000 in
theorem slices_Contains_int_pc (al : Bool) (k : Nat) (a0 : (List Int)) (a1 : Int) (o : Bool) (H : slices_Contains_int k a0 a1 = some o) : PC Try.prog al 122 [.lst (List.map eI a0), .v (.int .i64 a1)] (.v (.bool o)) := by
  unfold slices_Contains_int at H
  refine PC.of_T Try.func122 rfl rfl (n := 9) rfl rfl (.inr rfl) ?_
  intro base B w0
  refine T.st (st' := ⟨[(0, .lst (List.map eI a0)), (1, .v (.int .i64 a1))], [], 0, []⟩) rfl ?_
  refine T.seq ?_
  refine T.region ?_
  refine RunT.ot0 (x := .v (.bool false)) rfl rfl rfl rfl (.assignX rfl) ?_
  refine RunT.nil ?_
  refine T.seq ?_
  refine T.region ?_
  refine RunT.ot0 (x := .lst (List.map eI a0)) rfl rfl rfl rfl (.moveX rfl) ?_
  refine RunT.ot0 (x := .v (.int .i64 a1)) rfl rfl rfl rfl (.moveX rfl) ?_
  obtain ⟨r1, h2, H⟩ := bs H
  refine RunT.ot0 (x := .v (.int .i64 r1)) rfl rfl rfl rfl (.callp (slices_Index_int_pc false k a0 a1 r1 h2) rfl ⟨(.one .lst), (.one .v), trivial⟩ rfl rfl rfl) ?_
  refine RunT.ot0 (x := .v (.bool (decide (0 ≤ r1)))) rfl rfl rfl rfl (.bin rfl rfl (fun w => b_geq w) rfl) ?_
  refine RunT.ot0 (x := .v (.bool (decide (0 ≤ r1)))) rfl rfl rfl rfl (.assignX rfl) ?_
  refine RunT.nil ?_
  obtain rfl := si H
  refine T.sub (sub_to (st' := ⟨[(4, .v (.bool (decide (0 ≤ r1))))], [], 8, []⟩) [] (by decide) rfl rfl (⟨⟨_, rfl, .one .v⟩, trivial⟩) (trivial)) ?_
  refine T.ret ?_
  exact RetOk.same [.v (.bool (decide (0 ≤ r1)))] ⟨rfl, trivial⟩ rfl rfl rfl
set_option maxHeartbeats 4000000 in
theorem kill_by_pc (al : Bool) (k : Nat) (a0 : Venue) (a1 : Int) (o : (List Int)) (H : kill_by k a0 a1 = some o) : PC Try.prog al 105 [.agg [.lst (List.map eSeat a0.Seats), .v (.int .i64 a0.Gap), .v (.int .i64 a0.Radius), .lst (List.map eI a0.Kills), .lst (List.map ePole a0.Poles)], .v (.int .i64 a1)] (.frs 1 (List.map eI o)) := by
  unfold kill_by at H
  refine PC.of_T Try.func105 rfl rfl (n := 42) rfl rfl (.inr (flat1_frs (sz := 1) fl_I)) ?_
  intro base B w0
  refine T.st (st' := ⟨[(0, .agg [.lst (List.map eSeat a0.Seats), .v (.int .i64 a0.Gap), .v (.int .i64 a0.Radius), .lst (List.map eI a0.Kills), .lst (List.map ePole a0.Poles)]), (1, .v (.int .i64 a1))], [], 0, []⟩) rfl ?_
  refine T.seq ?_
  refine T.region ?_
  refine RunT.ot1 (x := .ptr 0 0) (p0 := (0, some (.box [.lst (List.map eSeat a0.Seats), .v (.int .i64 a0.Gap), .v (.int .i64 a0.Radius), .lst (List.map eI a0.Kills), .lst (List.map ePole a0.Poles)]))) (n' := 8) rfl rfl rfl rfl (.boxX rfl rfl rfl) rfl ?_
  refine RunT.ot0 (x := .v (.slice none 0 0)) rfl rfl rfl rfl (.assignX rfl) ?_
  refine RunT.nil ?_
  refine T.seq ?_
  refine T.region ?_
  refine RunT.ot0 (x := .v (.slice none 0 0)) rfl rfl rfl rfl (.assignX rfl) ?_
  refine RunT.nil ?_
  refine T.seq ?_
  refine T.seq ?_
  refine T.region ?_
  refine RunT.ot0 (x := .ptr 0 3) rfl rfl rfl rfl (.fieldPX fl26_3 rfl rfl) ?_
  refine RunT.ot0 (x := .lst (List.map eI a0.Kills)) rfl rfl rfl rfl (.loadP ty23 rfl rfl rfl) ?_
  refine RunT.ot0 (x := .v (.int .i64 a1)) rfl rfl rfl rfl (.moveX rfl) ?_
  obtain ⟨r1, h2, H⟩ := bs H
  refine RunT.ot0 (x := .v (.bool r1)) rfl rfl rfl rfl (.callp (slices_Contains_int_pc false k a0.Kills a1 r1 h2) rfl ⟨(.one .lst), (.one .v), trivial⟩ rfl rfl rfl) ?_
  refine RunT.nil ?_
  obtain ⟨o5, E6, HO7⟩ := bs H
  refine T.cutE (⟨[(1, .v (.int .i64 a1)), (2, .ptr 0 0), (5, .own 1 0 o5.length)], [(0, some (.box [.lst (List.map eSeat a0.Seats), .v (.int .i64 a0.Gap), .v (.int .i64 a0.Radius), .lst (List.map eI a0.Kills), .lst (List.map ePole a0.Poles)])), (1, some (.arr false 1 (List.map eI o5)))], 8, []⟩) ?_ ?_
  · have H := E6
    refine T.cond2 (t := r1) rfl (fun c8 => ?_) (fun c8 => ?_)
    · replace H := ct H c8
      refine T.region ?_
      refine RunT.ot0 (x := .v (.slice none 0 0)) rfl rfl rfl rfl (.moveX rfl) ?_
      refine RunT.ot1 (x := .own 8 0 (([(-1)]).length)) (p0 := (8, some (.arr false 1 (List.map eI [(-1)])))) (n' := 16) rfl rfl rfl rfl (.bslicem (d := false) (l := [(-1)]) (f := eI) sl23 rfl rfl rfl enc_I rfl) rfl ?_
      obtain ⟨h9, H⟩ := gs H
      refine RunT.ot1 (x := .own 16 0 (([(-1)]).length)) (p0 := (16, some (.arr false 1 (List.map eI [(-1)])))) (n' := 24) rfl rfl rfl rfl (.appNm (d := false) (m := [(-1)]) (f := eI) sl23 rfl rfl (.ownn Try.underlying23 rfl rfl (fun h => by cases h)) rfl h9) rfl ?_
      refine RunT.ot0 (x := .own 16 0 (([(-1)]).length)) rfl rfl rfl rfl (.assignX rfl) ?_
      refine RunT.nil ?_
      obtain rfl := si H
      exact (sub_to [some 0, some 16] (by decide) rfl rfl (⟨⟨_, rfl, .one .v⟩, ⟨⟨_, rfl, .one (.ptr rfl)⟩, ⟨⟨_, rfl, .one (.own rfl)⟩, trivial⟩⟩⟩) (⟨⟨rfl, .inl ⟨_, _, rfl, rfl, .box ⟨.lst, .v, .v, .lst, .lst, trivial⟩⟩⟩, ⟨⟨rfl, .inl ⟨_, _, rfl, rfl, .arr rfl⟩⟩, trivial⟩⟩))
    · replace H := cf H c8
      refine T.skip ?_
      obtain rfl := si H
      exact (sub_to [some 0, none] (by decide) rfl rfl (⟨⟨_, rfl, .one .v⟩, ⟨⟨_, rfl, .one (.ptr rfl)⟩, ⟨⟨_, rfl, .one .nilO⟩, trivial⟩⟩⟩) (⟨⟨rfl, .inl ⟨_, _, rfl, rfl, .box ⟨.lst, .v, .v, .lst, .lst, trivial⟩⟩⟩, ⟨⟨rfl, .inr ⟨rfl, false, _, rfl, (by decide)⟩⟩, trivial⟩⟩))
  · intro s hS
    have H := HO7
    refine T.sub hS ?_
    refine T.seq ?_
    refine T.seq ?_
    refine T.region ?_
    refine RunT.ot0 (x := .ptr 0 4) rfl rfl rfl rfl (.fieldPX fl26_4 rfl rfl) ?_
    refine RunT.ot0 (x := .lst (List.map ePole a0.Poles)) rfl rfl rfl rfl (.loadP ty24 rfl rfl rfl) ?_
    refine RunT.ot0 (x := .v (.int .i64 (a0.Poles.length : Int))) rfl rfl rfl rfl (.lenLm Try.underlying24 rfl rfl) ?_
    refine RunT.ot0 (x := .v (.int .i64 0)) rfl rfl rfl rfl (.moveX rfl) ?_
    refine RunT.nil ?_
    obtain ⟨o30, E31, HO32⟩ := bs H
    refine T.cutE (⟨[(5, .own 0 0 o30.length)], [(0, some (.arr false 1 (List.map eI o30)))], 8, []⟩) ?_ ?_
    · have H := E31
      refine T.block ?_
      refine T.loopS (fun n s => ∃ (v33 : (List Int)) (v34 : Int), kill_by_l0 k a0 a1 n v33 v34 = some o30 ∧ s = ⟨[(1, .v (.int .i64 a1)), (2, .ptr 0 0), (5, .own 1 0 v33.length), (16, .lst (List.map ePole a0.Poles)), (17, .v (.int .i64 (a0.Poles.length : Int))), (18, .v (.int .i64 v34))], [(0, some (.box [.lst (List.map eSeat a0.Seats), .v (.int .i64 a0.Gap), .v (.int .i64 a0.Radius), .lst (List.map eI a0.Kills), .lst (List.map ePole a0.Poles)])), (1, some (.arr false 1 (List.map eI v33)))], 8, []⟩) k ⟨_, ⟨o5, 0, H, rfl⟩, sub_to [some 0, some 1] (by decide) rfl rfl (⟨⟨_, rfl, .one .v⟩, ⟨⟨_, rfl, .one (.ptr rfl)⟩, ⟨⟨_, rfl, .one (.own rfl)⟩, ⟨⟨_, rfl, .one .lst⟩, ⟨⟨_, rfl, .one .v⟩, ⟨⟨_, rfl, .one .v⟩, trivial⟩⟩⟩⟩⟩⟩) (⟨⟨rfl, .inl ⟨_, _, rfl, rfl, .box ⟨.lst, .v, .v, .lst, .lst, trivial⟩⟩⟩, ⟨⟨rfl, .inl ⟨_, _, rfl, rfl, .arr rfl⟩⟩, trivial⟩⟩)⟩ ?_
      rintro n s ⟨v33, v34, H, rfl⟩
      rcases n with _ | n
      · cases (show none = some _ from H)
      rw [kill_by_l0] at H
      refine T.seq ?_
      refine T.region ?_
      refine RunT.ot0 (x := .v (.bool (decide (v34 < (a0.Poles.length : Int))))) rfl rfl rfl rfl (.bin rfl rfl (fun w => b_lss w) rfl) ?_
      refine RunT.nil ?_
      refine T.seq ?_
      refine T.cond2 (t := decide (v34 < (a0.Poles.length : Int))) rfl (fun c35 => ?_) (fun c35 => ?_)
      · replace H := ct H c35
        refine T.skip ?_
        refine T.seq ?_
        refine T.block ?_
        refine T.seq ?_
        refine T.region ?_
        refine RunT.ot0 (x := .v (.int .i64 v34)) rfl rfl rfl rfl (.moveX rfl) ?_
        obtain ⟨y36, h37, H⟩ := bs H
        refine RunT.ot0 (x := .rptr [.v (.int .i64 y36.X), .v (.int .i64 y36.Y), .v (.int .i64 y36.R)]) rfl rfl rfl rfl (.idxLX h37 enc_Pole sl24 rfl rfl rfl) ?_
        refine RunT.ot0 (x := .agg [.v (.int .i64 y36.X), .v (.int .i64 y36.Y), .v (.int .i64 y36.R)]) rfl rfl rfl rfl (.loadR ty60 rfl rfl) ?_
        refine RunT.ot1 (x := .ptr 8 0) (p0 := (8, some (.box [.v (.int .i64 0), .v (.int .i64 0), .v (.int .i64 0)]))) (n' := 16) rfl rfl rfl rfl (.allocX in60.zero rfl rfl) rfl ?_
        refine RunT.ot0 (x := .v (.int .i64 v34)) rfl rfl rfl rfl (.assignX rfl) ?_
        refine RunT.on1 (x := .junk) (p0 := (8, some (.box [.v (.int .i64 y36.X), .v (.int .i64 y36.Y), .v (.int .i64 y36.R)]))) (n' := 24) rfl rfl rfl (.storePX ty60 rfl rfl rfl rfl rfl rfl rfl) rfl ?_
        refine RunT.nil ?_
        refine T.seq ?_
        refine T.sub (sub_pick [1, 2, 5, 6, 7, 16, 17, 18] [0, 1, 8] (st' := ⟨[(1, .v (.int .i64 a1)), (2, .ptr 0 0), (5, .own 1 0 v33.length), (6, .v (.int .i64 v34)), (7, .ptr 8 0), (16, .lst (List.map ePole a0.Poles)), (17, .v (.int .i64 (a0.Poles.length : Int))), (18, .v (.int .i64 v34))], [(0, some (.box [.lst (List.map eSeat a0.Seats), .v (.int .i64 a0.Gap), .v (.int .i64 a0.Radius), .lst (List.map eI a0.Kills), .lst (List.map ePole a0.Poles)])), (1, some (.arr false 1 (List.map eI v33))), (8, some (.box [.v (.int .i64 y36.X), .v (.int .i64 y36.Y), .v (.int .i64 y36.R)]))], 24, []⟩) rfl rfl rfl rfl rfl) ?_
        refine T.draw (wr := []) mixed rfl rfl ?_ rfl
        refine RunD.ot0 (x := .ptr 0 0) rfl rfl rfl rfl (.fieldPX fl26_0 rfl rfl) rfl ?_
        refine RunD.ot0 (x := .lst (List.map eSeat a0.Seats)) rfl rfl rfl rfl (.loadP ty22 rfl rfl rfl) rfl ?_
        refine RunD.ot0 (x := .v (.int .i64 a1)) rfl rfl rfl rfl (.moveX rfl) rfl ?_
        obtain ⟨y42, h43, H⟩ := bs H
        refine RunD.ot0 (x := .rptr [.v (.int .i64 y42.Row), .v (.int .i64 y42.X), .v (.int .i64 y42.Y), .v (.int .i64 y42.Kind)]) rfl rfl rfl rfl (.idxLX h43 enc_Seat sl22 rfl rfl rfl) rfl ?_
        refine RunD.ot0 (x := .agg [.v (.int .i64 y42.Row), .v (.int .i64 y42.X), .v (.int .i64 y42.Y), .v (.int .i64 y42.Kind)]) rfl rfl rfl rfl (.loadR ty28 rfl rfl) rfl ?_
        refine RunD.ot0 (x := .ptr 8 0) rfl rfl rfl rfl (.fieldPX fl60_0 rfl rfl) rfl ?_
        refine RunD.ot0 (x := .v (.int .i64 y36.X)) rfl rfl rfl rfl (.loadP ty3 rfl rfl rfl) rfl ?_
        refine RunD.ot0 (x := .ptr 8 1) rfl rfl rfl rfl (.fieldPX fl60_1 rfl rfl) rfl ?_
        refine RunD.ot0 (x := .v (.int .i64 y36.Y)) rfl rfl rfl rfl (.loadP ty3 rfl rfl rfl) rfl ?_
        refine RunD.ot0 (x := .agg [.v (.int .i64 0), .v (.int .i64 y36.X), .v (.int .i64 y36.Y), .v (.int .i64 0)]) rfl rfl rfl rfl (.bu bu28 rfl) rfl ?_
        refine RunD.ot0 (x := .ptr 8 2) rfl rfl rfl rfl (.fieldPX fl60_2 rfl rfl) rfl ?_
        refine RunD.ot0 (x := .v (.int .i64 y36.R)) rfl rfl rfl rfl (.loadP ty3 rfl rfl rfl) rfl ?_
        obtain ⟨r44, h45, H⟩ := bs H
        refine RunD.ot0 (x := .v (.bool r44)) rfl rfl rfl rfl (.callp (geom_Close_pc false k y42 (Seat.mk 0 y36.X y36.Y 0) y36.R r44 h45) rfl ⟨(.agg' ⟨.v, .v, .v, .v, trivial⟩), (.agg' ⟨.v, .v, .v, .v, trivial⟩), (.one .v), trivial⟩ rfl rfl rfl) rfl ?_
        refine RunD.nil (by kernel_rfl) ⟨rfl, rfl, ?_⟩
        refine T.cond2 (t := r44) rfl (fun c46 => ?_) (fun c46 => ?_)
        · replace H := ct H c46
          refine T.sub (sub_pick [1, 2, 5, 6, 16, 17, 18] [0, 1] (st' := ⟨[(1, .v (.int .i64 a1)), (2, .ptr 0 0), (5, .own 1 0 v33.length), (6, .v (.int .i64 v34)), (16, .lst (List.map ePole a0.Poles)), (17, .v (.int .i64 (a0.Poles.length : Int))), (18, .v (.int .i64 v34))], [(0, some (.box [.lst (List.map eSeat a0.Seats), .v (.int .i64 a0.Gap), .v (.int .i64 a0.Radius), .lst (List.map eI a0.Kills), .lst (List.map ePole a0.Poles)])), (1, some (.arr false 1 (List.map eI v33)))], 128, []⟩) rfl rfl rfl rfl rfl) ?_
          refine T.region ?_
          refine RunT.ot0 (x := .own 1 0 v33.length) rfl rfl rfl rfl (.moveX rfl) ?_
          refine RunT.ot0 (x := .v (.int .i64 v34)) rfl rfl rfl rfl (.moveX rfl) ?_
          refine RunT.ot1 (x := .own 128 0 (([v34]).length)) (p0 := (128, some (.arr false 1 (List.map eI [v34])))) (n' := 136) rfl rfl rfl rfl (.bslicem (d := false) (l := [v34]) (f := eI) sl23 rfl rfl rfl enc_I rfl) rfl ?_
          obtain ⟨h47, H⟩ := gs H
          refine RunT.ot2 (x := .own 136 0 ((v33 ++ [v34]).length)) (p0 := (136, some (.arr false 1 (List.map eI (v33 ++ [v34]))))) (p1 := (1, none)) (n' := 144) rfl rfl rfl rfl (.appOn (d := false) (l := v33) (m := [v34]) (f := eI) rfl sl23 rfl rfl rfl (.ownn Try.underlying23 rfl rfl (fun h => by cases h)) rfl h47) rfl ?_
          refine RunT.ot0 (x := .own 136 0 ((v33 ++ [v34]).length)) rfl rfl rfl rfl (.assignX rfl) ?_
          refine RunT.nil ?_
          refine T.region ?_
          refine RunT.ot0 (x := .v (.int .i64 (wr (v34 + 1)))) rfl rfl rfl rfl (.bin rfl rfl (fun w => b_addw w) rfl) ?_
          refine RunT.ot0 (x := .v (.int .i64 (wr (v34 + 1)))) rfl rfl rfl rfl (.moveX rfl) ?_
          refine RunT.nil ?_
          exact ⟨n, Nat.lt_succ_self n, _, ⟨v33 ++ [v34], wr (v34 + 1), H, rfl⟩, (sub_to [some 0, some 136] (by decide) rfl rfl (⟨⟨_, rfl, .one .v⟩, ⟨⟨_, rfl, .one (.ptr rfl)⟩, ⟨⟨_, rfl, .one (.own rfl)⟩, ⟨⟨_, rfl, .one .lst⟩, ⟨⟨_, rfl, .one .v⟩, ⟨⟨_, rfl, .one .v⟩, trivial⟩⟩⟩⟩⟩⟩) (⟨⟨rfl, .inl ⟨_, _, rfl, rfl, .box ⟨.lst, .v, .v, .lst, .lst, trivial⟩⟩⟩, ⟨⟨rfl, .inl ⟨_, _, rfl, rfl, .arr rfl⟩⟩, trivial⟩⟩))⟩
        · replace H := cf H c46
          refine T.skip ?_
          refine T.region ?_
          refine RunT.ot0 (x := .v (.int .i64 (wr (v34 + 1)))) rfl rfl rfl rfl (.bin rfl rfl (fun w => b_addw w) rfl) ?_
          refine RunT.ot0 (x := .v (.int .i64 (wr (v34 + 1)))) rfl rfl rfl rfl (.moveX rfl) ?_
          refine RunT.nil ?_
          exact ⟨n, Nat.lt_succ_self n, _, ⟨v33, wr (v34 + 1), H, rfl⟩, (sub_to [some 0, some 1] (by decide) rfl rfl (⟨⟨_, rfl, .one .v⟩, ⟨⟨_, rfl, .one (.ptr rfl)⟩, ⟨⟨_, rfl, .one (.own rfl)⟩, ⟨⟨_, rfl, .one .lst⟩, ⟨⟨_, rfl, .one .v⟩, ⟨⟨_, rfl, .one .v⟩, trivial⟩⟩⟩⟩⟩⟩) (⟨⟨rfl, .inl ⟨_, _, rfl, rfl, .box ⟨.lst, .v, .v, .lst, .lst, trivial⟩⟩⟩, ⟨⟨rfl, .inl ⟨_, _, rfl, rfl, .arr rfl⟩⟩, trivial⟩⟩))⟩
      · replace H := cf H c35
        refine T.exit ?_
        obtain rfl := si H
        exact (sub_to [some 1] (by decide) rfl rfl (⟨⟨_, rfl, .one (.own rfl)⟩, trivial⟩) (⟨⟨rfl, .inl ⟨_, _, rfl, rfl, .arr rfl⟩⟩, trivial⟩))
    · intro s hS
      have H := HO32
      refine T.sub hS ?_
      refine T.seq ?_
      refine T.region ?_
      refine RunT.ot0 (x := .own 0 0 o30.length) rfl rfl rfl rfl (.moveX rfl) ?_
      refine RunT.ot0 (x := .own 0 0 o30.length) rfl rfl rfl rfl (.assignX rfl) ?_
      refine RunT.nil ?_
      obtain rfl := si H
      refine T.sub (sub_to (st' := ⟨[(4, .own 0 0 ((List.map eI o30).length))], [(0, some (.arr false 1 (List.map eI o30)))], 8, []⟩) [some 0] (by decide) rfl rfl (⟨⟨_, rfl, .one (.own' rfl (List.length_map _).symm)⟩, trivial⟩) (⟨⟨rfl, .inl ⟨_, _, rfl, rfl, .arr rfl⟩⟩, trivial⟩)) ?_
      refine T.ret ?_
      exact RetOk.same [.own 0 0 ((List.map eI o30).length)] ⟨rfl, trivial⟩ rfl rfl rfl
set_option maxHeartbeats 4000000 in
theorem kill_Usable_pc (al : Bool) (k : Nat) (a0 : Venue) (o : (List Bool)) (H : kill_Usable k a0 = some o) : PC Try.prog al 54 [.agg [.lst (List.map eSeat a0.Seats), .v (.int .i64 a0.Gap), .v (.int .i64 a0.Radius), .lst (List.map eI a0.Kills), .lst (List.map ePole a0.Poles)]] (.frs 1 (List.map eB o)) := by
  unfold kill_Usable at H
  refine PC.of_T Try.func54 rfl rfl (n := 27) rfl rfl (.inr (flat1_frs (sz := 1) fl_B)) ?_
  intro base B w0
  refine T.st (st' := ⟨[(0, .agg [.lst (List.map eSeat a0.Seats), .v (.int .i64 a0.Gap), .v (.int .i64 a0.Radius), .lst (List.map eI a0.Kills), .lst (List.map ePole a0.Poles)])], [], 0, []⟩) rfl ?_
  refine T.seq ?_
  refine T.region ?_
  refine RunT.ot1 (x := .ptr 0 0) (p0 := (0, some (.box [.lst (List.map eSeat a0.Seats), .v (.int .i64 a0.Gap), .v (.int .i64 a0.Radius), .lst (List.map eI a0.Kills), .lst (List.map ePole a0.Poles)]))) (n' := 8) rfl rfl rfl rfl (.boxX rfl rfl rfl) rfl ?_
  refine RunT.ot0 (x := .v (.slice none 0 0)) rfl rfl rfl rfl (.assignX rfl) ?_
  refine RunT.nil ?_
  refine T.seq ?_
  refine T.seq ?_
  refine T.region ?_
  refine RunT.ot0 (x := .agg [.lst (List.map eSeat a0.Seats), .v (.int .i64 a0.Gap), .v (.int .i64 a0.Radius), .lst (List.map eI a0.Kills), .lst (List.map ePole a0.Poles)]) rfl rfl rfl rfl (.loadP ty26 rfl rfl rfl) ?_
  obtain ⟨r1, h2, H⟩ := bs H
  refine RunT.ot0 (x := .v (.bool r1)) rfl rfl rfl rfl (.callp (venue_May_pc false k a0 r1 h2) rfl ⟨(.agg' ⟨.lst, .v, .v, .lst, .lst, trivial⟩), trivial⟩ rfl rfl rfl) ?_
  refine RunT.ot0 (x := .v (.bool (!r1))) rfl rfl rfl rfl (.un rfl (fun w => u_not w) rfl) ?_
  refine RunT.nil ?_
  refine T.cond2 (t := !r1) rfl (fun c3 => ?_) (fun c3 => ?_)
  · replace H := ct H c3
    refine T.seq ?_
    refine T.region ?_
    refine RunT.ot0 (x := .v (.slice none 0 0)) rfl rfl rfl rfl (.assignX rfl) ?_
    refine RunT.nil ?_
    obtain rfl := si H
    refine T.sub (sub_to (st' := ⟨[(2, .own 0 0 0)], [(0, some (.arr false 1 (List.map eB [])))], 8, []⟩) [none] (by decide) rfl rfl (⟨⟨_, rfl, .one .nilO⟩, trivial⟩) (⟨⟨rfl, .inr ⟨rfl, false, _, rfl, (by decide)⟩⟩, trivial⟩)) ?_
    refine T.ret ?_
    exact RetOk.same [.own 0 0 0] ⟨rfl, trivial⟩ rfl rfl rfl
  · replace H := cf H c3
    refine T.skip ?_
    refine T.seq ?_
    refine T.region ?_
    refine RunT.ot0 (x := .ptr 0 0) rfl rfl rfl rfl (.fieldPX fl26_0 rfl rfl) ?_
    refine RunT.ot0 (x := .lst (List.map eSeat a0.Seats)) rfl rfl rfl rfl (.loadP ty22 rfl rfl rfl) ?_
    refine RunT.ot0 (x := .v (.int .i64 (a0.Seats.length : Int))) rfl rfl rfl rfl (.lenLm Try.underlying22 rfl rfl) ?_
    obtain ⟨h4, H⟩ := gs H
    refine RunT.ot1 (x := .own 8 0 ((List.replicate (a0.Seats.length : Int).toNat false).length)) (p0 := (8, some (.arr false 1 (List.map eB (List.replicate (a0.Seats.length : Int).toNat false))))) (n' := 16) rfl rfl rfl rfl (.mkslicem (d := false) (z' := false) (f := eB) sl43 rfl rfl in4.zero rfl enc_B h4) rfl ?_
    refine RunT.ot0 (x := .own 8 0 ((List.replicate (a0.Seats.length : Int).toNat false).length)) rfl rfl rfl rfl (.assignX rfl) ?_
    refine RunT.nil ?_
    refine T.seq ?_
    refine T.seq ?_
    refine T.region ?_
    refine RunT.ot0 (x := .own 8 0 ((List.replicate (a0.Seats.length : Int).toNat false).length)) rfl rfl rfl rfl (.moveX rfl) ?_
    refine RunT.ot0 (x := .v (.int .i64 ((List.replicate (a0.Seats.length : Int).toNat false).length : Int))) rfl rfl rfl rfl (.lenON rfl Try.underlying43 rfl rfl) ?_
    refine RunT.ot0 (x := .v (.int .i64 0)) rfl rfl rfl rfl (.moveX rfl) ?_
    refine RunT.nil ?_
    obtain ⟨o17, E18, HO19⟩ := bs H
    refine T.cutE (⟨[(3, .own 0 0 o17.length)], [(0, some (.arr false 1 (List.map eB o17)))], 8, []⟩) ?_ ?_
    · have H := E18
      refine T.block ?_
      refine T.loopS (fun n s => ∃ (v20 : (List Bool)) (v21 : Int), kill_Usable_l0 k a0 n v20 v21 = some o17 ∧ s = ⟨[(1, .ptr 0 0), (3, .own 1 0 v20.length), (13, .v (.int .i64 ((List.replicate (a0.Seats.length : Int).toNat false).length : Int))), (14, .v (.int .i64 v21))], [(0, some (.box [.lst (List.map eSeat a0.Seats), .v (.int .i64 a0.Gap), .v (.int .i64 a0.Radius), .lst (List.map eI a0.Kills), .lst (List.map ePole a0.Poles)])), (1, some (.arr false 1 (List.map eB v20)))], 8, []⟩) k ⟨_, ⟨List.replicate (a0.Seats.length : Int).toNat false, 0, H, rfl⟩, sub_to [some 0, some 8] (by decide) rfl rfl (⟨⟨_, rfl, .one (.ptr rfl)⟩, ⟨⟨_, rfl, .one (.own rfl)⟩, ⟨⟨_, rfl, .one .v⟩, ⟨⟨_, rfl, .one .v⟩, trivial⟩⟩⟩⟩) (⟨⟨rfl, .inl ⟨_, _, rfl, rfl, .box ⟨.lst, .v, .v, .lst, .lst, trivial⟩⟩⟩, ⟨⟨rfl, .inl ⟨_, _, rfl, rfl, .arr rfl⟩⟩, trivial⟩⟩)⟩ ?_
      rintro n s ⟨v20, v21, H, rfl⟩
      rcases n with _ | n
      · cases (show none = some _ from H)
      rw [kill_Usable_l0] at H
      refine T.seq ?_
      refine T.region ?_
      refine RunT.ot0 (x := .v (.bool (decide (v21 < ((List.replicate (a0.Seats.length : Int).toNat false).length : Int))))) rfl rfl rfl rfl (.bin rfl rfl (fun w => b_lss w) rfl) ?_
      refine RunT.nil ?_
      refine T.seq ?_
      refine T.cond2 (t := decide (v21 < ((List.replicate (a0.Seats.length : Int).toNat false).length : Int))) rfl (fun c22 => ?_) (fun c22 => ?_)
      · replace H := ct H c22
        refine T.skip ?_
        refine T.seq ?_
        refine T.block ?_
        refine T.seq ?_
        refine T.region ?_
        refine RunT.ot0 (x := .v (.int .i64 v21)) rfl rfl rfl rfl (.moveX rfl) ?_
        refine RunT.ot0 (x := .v (.int .i64 v21)) rfl rfl rfl rfl (.assignX rfl) ?_
        refine RunT.nil ?_
        refine T.region ?_
        refine RunT.ot0 (x := .own 1 0 v20.length) rfl rfl rfl rfl (.moveX rfl) ?_
        refine RunT.ot0 (x := .v (.int .i64 v21)) rfl rfl rfl rfl (.moveX rfl) ?_
        refine RunT.ot0 (x := .agg [.lst (List.map eSeat a0.Seats), .v (.int .i64 a0.Gap), .v (.int .i64 a0.Radius), .lst (List.map eI a0.Kills), .lst (List.map ePole a0.Poles)]) rfl rfl rfl rfl (.loadP ty26 rfl rfl rfl) ?_
        refine RunT.ot0 (x := .v (.int .i64 v21)) rfl rfl rfl rfl (.moveX rfl) ?_
        obtain ⟨r23, h24, H⟩ := bs H
        refine RunT.ot0 (x := .lst (List.map eI r23)) rfl rfl rfl rfl (.callp (PC.frozen (kill_by_pc false k a0 v21 r23 h24)) rfl ⟨(.agg' ⟨.lst, .v, .v, .lst, .lst, trivial⟩), (.one .v), trivial⟩ rfl rfl rfl) ?_
        refine RunT.ot0 (x := .v (.int .i64 (r23.length : Int))) rfl rfl rfl rfl (.lenLm Try.underlying23 rfl rfl) ?_
        refine RunT.ot0 (x := .v (.bool (decide ((r23.length : Int) = 0)))) rfl rfl rfl rfl (.bin rfl rfl (fun w => b_eql w) rfl) ?_
        obtain ⟨y25, h26, H⟩ := bs H
        refine RunT.ot0 (x := .eptr 1 v21.toNat 0) rfl rfl rfl rfl (.idxOn rfl sl43 rfl rfl rfl h26) ?_
        refine RunT.on1 (x := .junk) (p0 := (1, some (.arr false 1 (List.map eB (v20.set v21.toNat (decide ((r23.length : Int) = 0))))))) (n' := 16) rfl rfl rfl (.storeEm (z' := decide ((r23.length : Int) = 0)) ty4 rfl rfl rfl rfl rfl (ixs h26).2.1 rfl (fun _ => rfl) rfl) rfl ?_
        refine RunT.nil ?_
        refine T.region ?_
        refine RunT.ot0 (x := .v (.int .i64 (wr (v21 + 1)))) rfl rfl rfl rfl (.bin rfl rfl (fun w => b_addw w) rfl) ?_
        refine RunT.ot0 (x := .v (.int .i64 (wr (v21 + 1)))) rfl rfl rfl rfl (.moveX rfl) ?_
        refine RunT.nil ?_
        exact ⟨n, Nat.lt_succ_self n, _, ⟨v20.set v21.toNat (decide ((r23.length : Int) = 0)), wr (v21 + 1), H, rfl⟩, (sub_to [some 0, some 1] (by decide) rfl rfl (⟨⟨_, rfl, .one (.ptr rfl)⟩, ⟨⟨_, rfl, .one (.own' rfl (List.length_set ..).symm)⟩, ⟨⟨_, rfl, .one .v⟩, ⟨⟨_, rfl, .one .v⟩, trivial⟩⟩⟩⟩) (⟨⟨rfl, .inl ⟨_, _, rfl, rfl, .box ⟨.lst, .v, .v, .lst, .lst, trivial⟩⟩⟩, ⟨⟨rfl, .inl ⟨_, _, rfl, rfl, .arr rfl⟩⟩, trivial⟩⟩))⟩
      · replace H := cf H c22
        refine T.exit ?_
        obtain rfl := si H
        exact (sub_to [some 1] (by decide) rfl rfl (⟨⟨_, rfl, .one (.own rfl)⟩, trivial⟩) (⟨⟨rfl, .inl ⟨_, _, rfl, rfl, .arr rfl⟩⟩, trivial⟩))
    · intro s hS
      have H := HO19
      refine T.sub hS ?_
      refine T.seq ?_
      refine T.sub (sub_pick [3] [0] (st' := ⟨[(3, .own 0 0 o17.length)], [(0, some (.arr false 1 (List.map eB o17)))], 8, []⟩) rfl rfl rfl rfl rfl) ?_
      refine T.region ?_
      refine RunT.ot0 (x := .own 0 0 o17.length) rfl rfl rfl rfl (.moveX rfl) ?_
      refine RunT.ot0 (x := .own 0 0 o17.length) rfl rfl rfl rfl (.assignX rfl) ?_
      refine RunT.nil ?_
      obtain rfl := si H
      refine T.sub (sub_to (st' := ⟨[(2, .own 0 0 ((List.map eB o17).length))], [(0, some (.arr false 1 (List.map eB o17)))], 8, []⟩) [some 0] (by decide) rfl rfl (⟨⟨_, rfl, .one (.own' rfl (List.length_map _).symm)⟩, trivial⟩) (⟨⟨rfl, .inl ⟨_, _, rfl, rfl, .arr rfl⟩⟩, trivial⟩)) ?_
      refine T.ret ?_
      exact RetOk.same [.own 0 0 ((List.map eB o17).length)] ⟨rfl, trivial⟩ rfl rfl rfl
set_option maxHeartbeats 4000000 in
theorem place_In_pc (k : Nat) (a0 : Venue) (o : PlaceHall × Bool) (H : place_In k a0 = some o) : PC Try.prog true 107 [.agg [.lst (List.map eSeat a0.Seats), .v (.int .i64 a0.Gap), .v (.int .i64 a0.Radius), .lst (List.map eI a0.Kills), .lst (List.map ePole a0.Poles)]] (.tup [.agg [.lst (List.map eSeat o.1.V.Seats), .v (.int .i64 o.1.V.Gap), .v (.int .i64 o.1.V.Radius), .lst (List.map eI o.1.V.Kills), .lst (List.map ePole o.1.V.Poles), .frs 1 (List.map eB o.1.usable)], .v (.bool o.2)]) := by
  unfold place_In at H
  refine PC.of_T Try.func107 rfl rfl (n := 10) rfl rfl (.inl rfl) ?_
  intro base B w0
  refine T.st (st' := ⟨[(0, .agg [.lst (List.map eSeat a0.Seats), .v (.int .i64 a0.Gap), .v (.int .i64 a0.Radius), .lst (List.map eI a0.Kills), .lst (List.map ePole a0.Poles)])], [], 0, []⟩) rfl ?_
  refine T.seq ?_
  refine T.region ?_
  refine RunT.ot1 (x := .ptr 0 0) (p0 := (0, some (.box [.lst (List.map eSeat a0.Seats), .v (.int .i64 a0.Gap), .v (.int .i64 a0.Radius), .lst (List.map eI a0.Kills), .lst (List.map ePole a0.Poles)]))) (n' := 8) rfl rfl rfl rfl (.boxX rfl rfl rfl) rfl ?_
  refine RunT.ot1 (x := .ptr 8 0) (p0 := (8, some (.box [.v (.slice none 0 0), .v (.int .i64 0), .v (.int .i64 0), .v (.slice none 0 0), .v (.slice none 0 0), .v (.slice none 0 0)]))) (n' := 16) rfl rfl rfl rfl (.allocX in115.zero rfl rfl) rfl ?_
  refine RunT.ot0 (x := .v (.bool false)) rfl rfl rfl rfl (.assignX rfl) ?_
  refine RunT.nil ?_
  refine T.seq ?_
  refine T.draw (wr := [(6, [8])]) mixed rfl rfl ?_ rfl
  refine RunD.ot0 (x := .agg [.lst (List.map eSeat a0.Seats), .v (.int .i64 a0.Gap), .v (.int .i64 a0.Radius), .lst (List.map eI a0.Kills), .lst (List.map ePole a0.Poles)]) rfl rfl rfl rfl (.loadP ty26 rfl rfl rfl) rfl ?_
  refine RunD.ot0 (x := .agg [.lst (List.map eSeat a0.Seats), .v (.int .i64 a0.Gap), .v (.int .i64 a0.Radius), .lst (List.map eI a0.Kills), .lst (List.map ePole a0.Poles)]) rfl rfl rfl rfl (.loadP ty26 rfl rfl rfl) rfl ?_
  obtain ⟨r5, h6, H⟩ := bs H
  refine RunD.ot1 (x := .own 32 0 ((List.map eB r5).length)) (p0 := (32, some (.arr false 1 (List.map eB r5)))) rfl rfl rfl rfl (.callp (kill_Usable_pc false k a0 r5 h6) rfl ⟨(.agg' ⟨.lst, .v, .v, .lst, .lst, trivial⟩), trivial⟩ rfl rfl rfl) rfl ?_
  refine RunD.ot0 (x := .agg [.lst (List.map eSeat a0.Seats), .v (.int .i64 a0.Gap), .v (.int .i64 a0.Radius), .lst (List.map eI a0.Kills), .lst (List.map ePole a0.Poles), .own 32 0 ((List.map eB r5).length)]) rfl rfl rfl rfl (.bu bu115 rfl) rfl ?_
  refine RunD.ot0 (x := .agg [.lst (List.map eSeat a0.Seats), .v (.int .i64 a0.Gap), .v (.int .i64 a0.Radius), .lst (List.map eI a0.Kills), .lst (List.map ePole a0.Poles)]) rfl rfl rfl rfl (.loadP ty26 rfl rfl rfl) rfl ?_
  obtain ⟨r7, h8, H⟩ := bs H
  refine RunD.ot0 (x := .v (.bool r7)) rfl rfl rfl rfl (.callp (venue_May_pc false k a0 r7 h8) rfl ⟨(.agg' ⟨.lst, .v, .v, .lst, .lst, trivial⟩), trivial⟩ rfl rfl rfl) rfl ?_
  refine RunD.on1 (x := .junk) (p0 := (8, some (.box [.lst (List.map eSeat a0.Seats), .v (.int .i64 a0.Gap), .v (.int .i64 a0.Radius), .lst (List.map eI a0.Kills), .lst (List.map ePole a0.Poles), .own 32 0 ((List.map eB r5).length)]))) rfl rfl rfl (.storePX ty115 rfl rfl rfl rfl rfl rfl rfl) rfl ?_
  refine RunD.ot0 (x := .v (.bool r7)) rfl rfl rfl rfl (.assignX rfl) rfl ?_
  refine RunD.nil (by kernel_rfl) ⟨rfl, rfl, ?_⟩
  obtain rfl := si H
  refine T.sub (sub_to (st' := ⟨[(2, .ptr 1 0), (3, .v (.bool r7))], [(0, some (.arr false 1 (List.map eB r5))), (1, some (.box [.lst (List.map eSeat a0.Seats), .v (.int .i64 a0.Gap), .v (.int .i64 a0.Radius), .lst (List.map eI a0.Kills), .lst (List.map ePole a0.Poles), .own 0 0 ((List.map eB r5).length)]))], 8, []⟩) [some 32, some 8] (by decide) rfl rfl (⟨⟨_, rfl, .one (.ptr rfl)⟩, ⟨⟨_, rfl, .one .v⟩, trivial⟩⟩) (⟨⟨rfl, .inl ⟨_, _, rfl, rfl, .arr rfl⟩⟩, ⟨⟨rfl, .inl ⟨_, _, rfl, rfl, .box ⟨.lst, .v, .v, .lst, .lst, (.own' rfl ((List.length_map _).trans (List.length_map _).symm)), trivial⟩⟩⟩, trivial⟩⟩)) ?_
  refine T.ret ?_
  exact RetOk.same [.agg [.lst (List.map eSeat a0.Seats), .v (.int .i64 a0.Gap), .v (.int .i64 a0.Radius), .lst (List.map eI a0.Kills), .lst (List.map ePole a0.Poles), .own 0 0 ((List.map eB r5).length)], .v (.bool r7)] ⟨⟨1, 0, _, _, _, ty115, rfl, rfl, rfl⟩, rfl, trivial⟩ rfl rfl rfl
set_option maxHeartbeats 4000000 in
theorem run_next_pc (al : Bool) (k : Nat) (a0 : Venue) (a1 : Int) (o : Bool) (H : run_next k a0 a1 = some o) : PC Try.prog al 99 [.agg [.lst (List.map eSeat a0.Seats), .v (.int .i64 a0.Gap), .v (.int .i64 a0.Radius), .lst (List.map eI a0.Kills), .lst (List.map ePole a0.Poles)], .v (.int .i64 a1)] (.v (.bool o)) := by
  unfold run_next at H
  refine PC.of_T Try.func99 rfl rfl (n := 50) rfl rfl (.inr rfl) ?_
  intro base B w0
  refine T.st (st' := ⟨[(0, .agg [.lst (List.map eSeat a0.Seats), .v (.int .i64 a0.Gap), .v (.int .i64 a0.Radius), .lst (List.map eI a0.Kills), .lst (List.map ePole a0.Poles)]), (1, .v (.int .i64 a1))], [], 0, []⟩) rfl ?_
  refine T.seq ?_
  refine T.region ?_
  refine RunT.ot1 (x := .ptr 0 0) (p0 := (0, some (.box [.lst (List.map eSeat a0.Seats), .v (.int .i64 a0.Gap), .v (.int .i64 a0.Radius), .lst (List.map eI a0.Kills), .lst (List.map ePole a0.Poles)]))) (n' := 8) rfl rfl rfl rfl (.boxX rfl rfl rfl) rfl ?_
  refine RunT.ot0 (x := .v (.bool false)) rfl rfl rfl rfl (.assignX rfl) ?_
  refine RunT.nil ?_
  refine T.seq ?_
  refine T.draw (wr := []) mixed rfl rfl ?_ rfl
  refine RunD.ot0 (x := .v (.int .i64 a1)) rfl rfl rfl rfl (.moveX rfl) rfl ?_
  refine RunD.ot0 (x := .v (.bool (decide (0 ≤ a1)))) rfl rfl rfl rfl (.bin rfl rfl (fun w => b_geq w) rfl) rfl ?_
  refine RunD.ot0 (x := .v (.bool (decide (0 ≤ a1)))) rfl rfl rfl rfl (.moveX rfl) rfl ?_
  refine RunD.cases (t := 7) (c := decide (0 ≤ a1)) rfl (fun g12 => ?_) (fun g12 => ?_)
  · replace H := ct H g12
    refine RunD.gt0 (x := .v (.int .i64 a1)) rfl rfl rfl (bo g12) rfl rfl (.moveX rfl) rfl ?_
    refine RunD.gt0 (x := .ptr 0 0) rfl rfl rfl (bo g12) rfl rfl (.fieldPX fl26_0 rfl rfl) rfl ?_
    refine RunD.gt0 (x := .lst (List.map eSeat a0.Seats)) rfl rfl rfl (bo g12) rfl rfl (.loadP ty22 rfl rfl rfl) rfl ?_
    refine RunD.gt0 (x := .v (.int .i64 (a0.Seats.length : Int))) rfl rfl rfl (bo g12) rfl rfl (.lenLm Try.underlying22 rfl rfl) rfl ?_
    refine RunD.gt0 (x := .v (.int .i64 (wr ((a0.Seats.length : Int) - 1)))) rfl rfl rfl (bo g12) rfl rfl (.bin rfl rfl (fun w => b_subw w) rfl) rfl ?_
    refine RunD.gt0 (x := .v (.bool (decide (a1 < (wr ((a0.Seats.length : Int) - 1)))))) rfl rfl rfl (bo g12) rfl rfl (.bin rfl rfl (fun w => b_lss w) rfl) rfl ?_
    refine RunD.ot0 (x := .v (.bool (decide (a1 < (wr ((a0.Seats.length : Int) - 1)))))) rfl rfl rfl rfl (.pickT (bo g12) rfl) rfl ?_
    refine RunD.ot0 (x := .v (.bool (decide (a1 < (wr ((a0.Seats.length : Int) - 1)))))) rfl rfl rfl rfl (.moveX rfl) rfl ?_
    refine RunD.cases (t := 15) (c := decide (a1 < (wr ((a0.Seats.length : Int) - 1)))) rfl (fun g13 => ?_) (fun g13 => ?_)
    · replace H := ct H g13
      refine RunD.gt0 (x := .ptr 0 0) rfl rfl rfl (bo g13) rfl rfl (.fieldPX fl26_0 rfl rfl) rfl ?_
      refine RunD.gt0 (x := .lst (List.map eSeat a0.Seats)) rfl rfl rfl (bo g13) rfl rfl (.loadP ty22 rfl rfl rfl) rfl ?_
      refine RunD.gt0 (x := .v (.int .i64 a1)) rfl rfl rfl (bo g13) rfl rfl (.moveX rfl) rfl ?_
      refine RunD.gt0 (x := .v (.int .i64 (wr (a1 + 1)))) rfl rfl rfl (bo g13) rfl rfl (.bin rfl rfl (fun w => b_addw w) rfl) rfl ?_
      obtain ⟨y14, h15, H⟩ := bs H
      refine RunD.gt0 (x := .rptr [.v (.int .i64 y14.Row), .v (.int .i64 y14.X), .v (.int .i64 y14.Y), .v (.int .i64 y14.Kind)]) rfl rfl rfl (bo g13) rfl rfl (.idxLX h15 enc_Seat sl22 rfl rfl rfl) rfl ?_
      refine RunD.gt0 (x := .rptr [.v (.int .i64 y14.Row), .v (.int .i64 y14.X), .v (.int .i64 y14.Y), .v (.int .i64 y14.Kind)]) rfl rfl rfl (bo g13) rfl rfl (.fieldRX fl28_0 rfl rfl) rfl ?_
      refine RunD.gt0 (x := .v (.int .i64 y14.Row)) rfl rfl rfl (bo g13) rfl rfl (.loadR ty3 rfl rfl) rfl ?_
      refine RunD.gt0 (x := .ptr 0 0) rfl rfl rfl (bo g13) rfl rfl (.fieldPX fl26_0 rfl rfl) rfl ?_
      refine RunD.gt0 (x := .lst (List.map eSeat a0.Seats)) rfl rfl rfl (bo g13) rfl rfl (.loadP ty22 rfl rfl rfl) rfl ?_
      refine RunD.gt0 (x := .v (.int .i64 a1)) rfl rfl rfl (bo g13) rfl rfl (.moveX rfl) rfl ?_
      obtain ⟨y16, h17, H⟩ := bs H
      refine RunD.gt0 (x := .rptr [.v (.int .i64 y16.Row), .v (.int .i64 y16.X), .v (.int .i64 y16.Y), .v (.int .i64 y16.Kind)]) rfl rfl rfl (bo g13) rfl rfl (.idxLX h17 enc_Seat sl22 rfl rfl rfl) rfl ?_
      refine RunD.gt0 (x := .rptr [.v (.int .i64 y16.Row), .v (.int .i64 y16.X), .v (.int .i64 y16.Y), .v (.int .i64 y16.Kind)]) rfl rfl rfl (bo g13) rfl rfl (.fieldRX fl28_0 rfl rfl) rfl ?_
      refine RunD.gt0 (x := .v (.int .i64 y16.Row)) rfl rfl rfl (bo g13) rfl rfl (.loadR ty3 rfl rfl) rfl ?_
      refine RunD.gt0 (x := .v (.bool (decide (y14.Row = y16.Row)))) rfl rfl rfl (bo g13) rfl rfl (.bin rfl rfl (fun w => b_eql w) rfl) rfl ?_
      refine RunD.ot0 (x := .v (.bool (decide (y14.Row = y16.Row)))) rfl rfl rfl rfl (.pickT (bo g13) rfl) rfl ?_
      refine RunD.ot0 (x := .v (.bool (decide (y14.Row = y16.Row)))) rfl rfl rfl rfl (.moveX rfl) rfl ?_
      refine RunD.cases (t := 31) (c := decide (y14.Row = y16.Row)) rfl (fun g18 => ?_) (fun g18 => ?_)
      · replace H := ct H g18
        refine RunD.gt0 (x := .ptr 0 0) rfl rfl rfl (bo g18) rfl rfl (.fieldPX fl26_0 rfl rfl) rfl ?_
        refine RunD.gt0 (x := .lst (List.map eSeat a0.Seats)) rfl rfl rfl (bo g18) rfl rfl (.loadP ty22 rfl rfl rfl) rfl ?_
        refine RunD.gt0 (x := .v (.int .i64 a1)) rfl rfl rfl (bo g18) rfl rfl (.moveX rfl) rfl ?_
        refine RunD.gt0 (x := .v (.int .i64 (wr (a1 + 1)))) rfl rfl rfl (bo g18) rfl rfl (.bin rfl rfl (fun w => b_addw w) rfl) rfl ?_
        obtain ⟨y19, h20, H⟩ := bs H
        refine RunD.gt0 (x := .rptr [.v (.int .i64 y19.Row), .v (.int .i64 y19.X), .v (.int .i64 y19.Y), .v (.int .i64 y19.Kind)]) rfl rfl rfl (bo g18) rfl rfl (.idxLX h20 enc_Seat sl22 rfl rfl rfl) rfl ?_
        refine RunD.gt0 (x := .rptr [.v (.int .i64 y19.X), .v (.int .i64 y19.Y), .v (.int .i64 y19.Kind)]) rfl rfl rfl (bo g18) rfl rfl (.fieldRX fl28_1 rfl rfl) rfl ?_
        refine RunD.gt0 (x := .v (.int .i64 y19.X)) rfl rfl rfl (bo g18) rfl rfl (.loadR ty3 rfl rfl) rfl ?_
        refine RunD.gt0 (x := .ptr 0 0) rfl rfl rfl (bo g18) rfl rfl (.fieldPX fl26_0 rfl rfl) rfl ?_
        refine RunD.gt0 (x := .lst (List.map eSeat a0.Seats)) rfl rfl rfl (bo g18) rfl rfl (.loadP ty22 rfl rfl rfl) rfl ?_
        refine RunD.gt0 (x := .v (.int .i64 a1)) rfl rfl rfl (bo g18) rfl rfl (.moveX rfl) rfl ?_
        obtain ⟨y21, h22, H⟩ := bs H
        refine RunD.gt0 (x := .rptr [.v (.int .i64 y21.Row), .v (.int .i64 y21.X), .v (.int .i64 y21.Y), .v (.int .i64 y21.Kind)]) rfl rfl rfl (bo g18) rfl rfl (.idxLX h22 enc_Seat sl22 rfl rfl rfl) rfl ?_
        refine RunD.gt0 (x := .rptr [.v (.int .i64 y21.X), .v (.int .i64 y21.Y), .v (.int .i64 y21.Kind)]) rfl rfl rfl (bo g18) rfl rfl (.fieldRX fl28_1 rfl rfl) rfl ?_
        refine RunD.gt0 (x := .v (.int .i64 y21.X)) rfl rfl rfl (bo g18) rfl rfl (.loadR ty3 rfl rfl) rfl ?_
        refine RunD.gt0 (x := .v (.int .i64 (wr (y19.X - y21.X)))) rfl rfl rfl (bo g18) rfl rfl (.bin rfl rfl (fun w => b_subw w) rfl) rfl ?_
        refine RunD.gt0 (x := .ptr 0 1) rfl rfl rfl (bo g18) rfl rfl (.fieldPX fl26_1 rfl rfl) rfl ?_
        refine RunD.gt0 (x := .v (.int .i64 a0.Gap)) rfl rfl rfl (bo g18) rfl rfl (.loadP ty3 rfl rfl rfl) rfl ?_
        refine RunD.gt0 (x := .v (.bool (decide ((wr (y19.X - y21.X)) ≤ a0.Gap)))) rfl rfl rfl (bo g18) rfl rfl (.bin rfl rfl (fun w => b_leq w) rfl) rfl ?_
        refine RunD.ot0 (x := .v (.bool (decide ((wr (y19.X - y21.X)) ≤ a0.Gap)))) rfl rfl rfl rfl (.pickT (bo g18) rfl) rfl ?_
        refine RunD.ot0 (x := .v (.bool (decide ((wr (y19.X - y21.X)) ≤ a0.Gap)))) rfl rfl rfl rfl (.assignX rfl) rfl ?_
        refine RunD.nil (by kernel_rfl) ⟨rfl, rfl, ?_⟩
        obtain rfl := si H
        refine T.sub (sub_to (st' := ⟨[(4, .v (.bool (decide ((wr (y19.X - y21.X)) ≤ a0.Gap))))], [], 8, []⟩) [] (by decide) rfl rfl (⟨⟨_, rfl, .one .v⟩, trivial⟩) (trivial)) ?_
        refine T.ret ?_
        exact RetOk.same [.v (.bool (decide ((wr (y19.X - y21.X)) ≤ a0.Gap)))] ⟨rfl, trivial⟩ rfl rfl rfl
      · replace H := cf H g18
        refine RunD.xn rfl rfl rfl (bo g18) rfl rfl ?_
        refine RunD.xn rfl rfl rfl (bo g18) rfl rfl ?_
        refine RunD.xn rfl rfl rfl (bo g18) rfl rfl ?_
        refine RunD.xn rfl rfl rfl (bo g18) rfl rfl ?_
        refine RunD.xn rfl rfl rfl (bo g18) rfl rfl ?_
        refine RunD.xn rfl rfl rfl (bo g18) rfl rfl ?_
        refine RunD.xn rfl rfl rfl (bo g18) rfl rfl ?_
        refine RunD.xn rfl rfl rfl (bo g18) rfl rfl ?_
        refine RunD.xn rfl rfl rfl (bo g18) rfl rfl ?_
        refine RunD.xn rfl rfl rfl (bo g18) rfl rfl ?_
        refine RunD.xn rfl rfl rfl (bo g18) rfl rfl ?_
        refine RunD.xn rfl rfl rfl (bo g18) rfl rfl ?_
        refine RunD.xn rfl rfl rfl (bo g18) rfl rfl ?_
        refine RunD.xn rfl rfl rfl (bo g18) rfl rfl ?_
        refine RunD.xn rfl rfl rfl (bo g18) rfl rfl ?_
        refine RunD.xn rfl rfl rfl (bo g18) rfl rfl ?_
        refine RunD.xn rfl rfl rfl (bo g18) rfl rfl ?_
        refine RunD.ot0 (x := .v (.bool false)) rfl rfl rfl rfl (.pickF (bo g18) rfl) rfl ?_
        refine RunD.ot0 (x := .v (.bool false)) rfl rfl rfl rfl (.assignX rfl) rfl ?_
        refine RunD.nil (by kernel_rfl) ⟨rfl, rfl, ?_⟩
        obtain rfl := si H
        refine T.sub (sub_to (st' := ⟨[(4, .v (.bool false))], [], 8, []⟩) [] (by decide) rfl rfl (⟨⟨_, rfl, .one .v⟩, trivial⟩) (trivial)) ?_
        refine T.ret ?_
        exact RetOk.same [.v (.bool false)] ⟨rfl, trivial⟩ rfl rfl rfl
    · replace H := cf H g13
      refine RunD.xn rfl rfl rfl (bo g13) rfl rfl ?_
      refine RunD.xn rfl rfl rfl (bo g13) rfl rfl ?_
      refine RunD.xn rfl rfl rfl (bo g13) rfl rfl ?_
      refine RunD.xn rfl rfl rfl (bo g13) rfl rfl ?_
      refine RunD.xn rfl rfl rfl (bo g13) rfl rfl ?_
      refine RunD.xn rfl rfl rfl (bo g13) rfl rfl ?_
      refine RunD.xn rfl rfl rfl (bo g13) rfl rfl ?_
      refine RunD.xn rfl rfl rfl (bo g13) rfl rfl ?_
      refine RunD.xn rfl rfl rfl (bo g13) rfl rfl ?_
      refine RunD.xn rfl rfl rfl (bo g13) rfl rfl ?_
      refine RunD.xn rfl rfl rfl (bo g13) rfl rfl ?_
      refine RunD.xn rfl rfl rfl (bo g13) rfl rfl ?_
      refine RunD.xn rfl rfl rfl (bo g13) rfl rfl ?_
      refine RunD.xn rfl rfl rfl (bo g13) rfl rfl ?_
      refine RunD.ot0 (x := .v (.bool false)) rfl rfl rfl rfl (.pickF (bo g13) rfl) rfl ?_
      refine RunD.ot0 (x := .v (.bool false)) rfl rfl rfl rfl (.moveX rfl) rfl ?_
      refine RunD.xn rfl rfl rfl rfl rfl rfl ?_
      refine RunD.xn rfl rfl rfl rfl rfl rfl ?_
      refine RunD.xn rfl rfl rfl rfl rfl rfl ?_
      refine RunD.xn rfl rfl rfl rfl rfl rfl ?_
      refine RunD.xn rfl rfl rfl rfl rfl rfl ?_
      refine RunD.xn rfl rfl rfl rfl rfl rfl ?_
      refine RunD.xn rfl rfl rfl rfl rfl rfl ?_
      refine RunD.xn rfl rfl rfl rfl rfl rfl ?_
      refine RunD.xn rfl rfl rfl rfl rfl rfl ?_
      refine RunD.xn rfl rfl rfl rfl rfl rfl ?_
      refine RunD.xn rfl rfl rfl rfl rfl rfl ?_
      refine RunD.xn rfl rfl rfl rfl rfl rfl ?_
      refine RunD.xn rfl rfl rfl rfl rfl rfl ?_
      refine RunD.xn rfl rfl rfl rfl rfl rfl ?_
      refine RunD.xn rfl rfl rfl rfl rfl rfl ?_
      refine RunD.xn rfl rfl rfl rfl rfl rfl ?_
      refine RunD.xn rfl rfl rfl rfl rfl rfl ?_
      refine RunD.ot0 (x := .v (.bool false)) rfl rfl rfl rfl (.pickF rfl rfl) rfl ?_
      refine RunD.ot0 (x := .v (.bool false)) rfl rfl rfl rfl (.assignX rfl) rfl ?_
      refine RunD.nil (by kernel_rfl) ⟨rfl, rfl, ?_⟩
      obtain rfl := si H
      refine T.sub (sub_to (st' := ⟨[(4, .v (.bool false))], [], 8, []⟩) [] (by decide) rfl rfl (⟨⟨_, rfl, .one .v⟩, trivial⟩) (trivial)) ?_
      refine T.ret ?_
      exact RetOk.same [.v (.bool false)] ⟨rfl, trivial⟩ rfl rfl rfl
  · replace H := cf H g12
    refine RunD.xn rfl rfl rfl (bo g12) rfl rfl ?_
    refine RunD.xn rfl rfl rfl (bo g12) rfl rfl ?_
    refine RunD.xn rfl rfl rfl (bo g12) rfl rfl ?_
    refine RunD.xn rfl rfl rfl (bo g12) rfl rfl ?_
    refine RunD.xn rfl rfl rfl (bo g12) rfl rfl ?_
    refine RunD.xn rfl rfl rfl (bo g12) rfl rfl ?_
    refine RunD.ot0 (x := .v (.bool false)) rfl rfl rfl rfl (.pickF (bo g12) rfl) rfl ?_
    refine RunD.ot0 (x := .v (.bool false)) rfl rfl rfl rfl (.moveX rfl) rfl ?_
    refine RunD.xn rfl rfl rfl rfl rfl rfl ?_
    refine RunD.xn rfl rfl rfl rfl rfl rfl ?_
    refine RunD.xn rfl rfl rfl rfl rfl rfl ?_
    refine RunD.xn rfl rfl rfl rfl rfl rfl ?_
    refine RunD.xn rfl rfl rfl rfl rfl rfl ?_
    refine RunD.xn rfl rfl rfl rfl rfl rfl ?_
    refine RunD.xn rfl rfl rfl rfl rfl rfl ?_
    refine RunD.xn rfl rfl rfl rfl rfl rfl ?_
    refine RunD.xn rfl rfl rfl rfl rfl rfl ?_
    refine RunD.xn rfl rfl rfl rfl rfl rfl ?_
    refine RunD.xn rfl rfl rfl rfl rfl rfl ?_
    refine RunD.xn rfl rfl rfl rfl rfl rfl ?_
    refine RunD.xn rfl rfl rfl rfl rfl rfl ?_
    refine RunD.xn rfl rfl rfl rfl rfl rfl ?_
    refine RunD.ot0 (x := .v (.bool false)) rfl rfl rfl rfl (.pickF rfl rfl) rfl ?_
    refine RunD.ot0 (x := .v (.bool false)) rfl rfl rfl rfl (.moveX rfl) rfl ?_
    refine RunD.xn rfl rfl rfl rfl rfl rfl ?_
    refine RunD.xn rfl rfl rfl rfl rfl rfl ?_
    refine RunD.xn rfl rfl rfl rfl rfl rfl ?_
    refine RunD.xn rfl rfl rfl rfl rfl rfl ?_
    refine RunD.xn rfl rfl rfl rfl rfl rfl ?_
    refine RunD.xn rfl rfl rfl rfl rfl rfl ?_
    refine RunD.xn rfl rfl rfl rfl rfl rfl ?_
    refine RunD.xn rfl rfl rfl rfl rfl rfl ?_
    refine RunD.xn rfl rfl rfl rfl rfl rfl ?_
    refine RunD.xn rfl rfl rfl rfl rfl rfl ?_
    refine RunD.xn rfl rfl rfl rfl rfl rfl ?_
    refine RunD.xn rfl rfl rfl rfl rfl rfl ?_
    refine RunD.xn rfl rfl rfl rfl rfl rfl ?_
    refine RunD.xn rfl rfl rfl rfl rfl rfl ?_
    refine RunD.xn rfl rfl rfl rfl rfl rfl ?_
    refine RunD.xn rfl rfl rfl rfl rfl rfl ?_
    refine RunD.xn rfl rfl rfl rfl rfl rfl ?_
    refine RunD.ot0 (x := .v (.bool false)) rfl rfl rfl rfl (.pickF rfl rfl) rfl ?_
    refine RunD.ot0 (x := .v (.bool false)) rfl rfl rfl rfl (.assignX rfl) rfl ?_
    refine RunD.nil (by kernel_rfl) ⟨rfl, rfl, ?_⟩
    obtain rfl := si H
    refine T.sub (sub_to (st' := ⟨[(4, .v (.bool false))], [], 8, []⟩) [] (by decide) rfl rfl (⟨⟨_, rfl, .one .v⟩, trivial⟩) (trivial)) ?_
    refine T.ret ?_
    exact RetOk.same [.v (.bool false)] ⟨rfl, trivial⟩ rfl rfl rfl
set_option maxHeartbeats 4000000 in
theorem run_free_pc (al : Bool) (k : Nat) (a0 : Venue) (a1 : (List Bool)) (a2 : Int) (o : Bool) (H : run_free k a0 a1 a2 = some o) : PC Try.prog al 136 [.agg [.lst (List.map eSeat a0.Seats), .v (.int .i64 a0.Gap), .v (.int .i64 a0.Radius), .lst (List.map eI a0.Kills), .lst (List.map ePole a0.Poles)], .lst (List.map eB a1), .v (.int .i64 a2)] (.v (.bool o)) := by
  unfold run_free at H
  refine PC.of_T Try.func136 rfl rfl (n := 25) rfl rfl (.inr rfl) ?_
  intro base B w0
  refine T.st (st' := ⟨[(0, .agg [.lst (List.map eSeat a0.Seats), .v (.int .i64 a0.Gap), .v (.int .i64 a0.Radius), .lst (List.map eI a0.Kills), .lst (List.map ePole a0.Poles)]), (1, .lst (List.map eB a1)), (2, .v (.int .i64 a2))], [], 0, []⟩) rfl ?_
  refine T.seq ?_
  refine T.region ?_
  refine RunT.ot1 (x := .ptr 0 0) (p0 := (0, some (.box [.lst (List.map eSeat a0.Seats), .v (.int .i64 a0.Gap), .v (.int .i64 a0.Radius), .lst (List.map eI a0.Kills), .lst (List.map ePole a0.Poles)]))) (n' := 8) rfl rfl rfl rfl (.boxX rfl rfl rfl) rfl ?_
  refine RunT.ot0 (x := .v (.bool false)) rfl rfl rfl rfl (.assignX rfl) ?_
  refine RunT.nil ?_
  refine T.seq ?_
  refine T.block ?_
  refine T.seq ?_
  refine T.block ?_
  refine T.block ?_
  refine T.block ?_
  refine T.seq ?_
  refine T.seq ?_
  refine T.seq ?_
  refine T.region ?_
  refine RunT.ot0 (x := .v (.int .i64 a2)) rfl rfl rfl rfl (.moveX rfl) ?_
  refine RunT.ot0 (x := .v (.bool (decide (a2 < 0)))) rfl rfl rfl rfl (.bin rfl rfl (fun w => b_lss w) rfl) ?_
  refine RunT.ot0 (x := .v (.bool (decide (a2 < 0)))) rfl rfl rfl rfl (.assignX rfl) ?_
  refine RunT.nil ?_
  refine T.cond2 (t := decide (a2 < 0)) rfl (fun c1 => ?_) (fun c1 => ?_)
  · replace H := ct H c1
    refine T.exit ?_
    refine T.seq ?_
    refine T.seq ?_
    refine T.region ?_
    refine RunT.ot0 (x := .v (.bool false)) rfl rfl rfl rfl (.assignX rfl) ?_
    refine RunT.nil ?_
    obtain rfl := si H
    refine T.sub (sub_to (st' := ⟨[(6, .v (.bool false))], [], 8, []⟩) [] (by decide) rfl rfl (⟨⟨_, rfl, .one .v⟩, trivial⟩) (trivial)) ?_
    refine T.ret ?_
    exact RetOk.same [.v (.bool false)] ⟨rfl, trivial⟩ rfl rfl rfl
  · replace H := cf H c1
    refine T.skip ?_
    refine T.seq ?_
    refine T.seq ?_
    refine T.region ?_
    refine RunT.ot0 (x := .v (.int .i64 a2)) rfl rfl rfl rfl (.moveX rfl) ?_
    refine RunT.ot0 (x := .ptr 0 0) rfl rfl rfl rfl (.fieldPX fl26_0 rfl rfl) ?_
    refine RunT.ot0 (x := .lst (List.map eSeat a0.Seats)) rfl rfl rfl rfl (.loadP ty22 rfl rfl rfl) ?_
    refine RunT.ot0 (x := .v (.int .i64 (a0.Seats.length : Int))) rfl rfl rfl rfl (.lenLm Try.underlying22 rfl rfl) ?_
    refine RunT.ot0 (x := .v (.bool (decide ((a0.Seats.length : Int) ≤ a2)))) rfl rfl rfl rfl (.bin rfl rfl (fun w => b_geq w) rfl) ?_
    refine RunT.ot0 (x := .v (.bool (decide ((a0.Seats.length : Int) ≤ a2)))) rfl rfl rfl rfl (.assignX rfl) ?_
    refine RunT.nil ?_
    refine T.cond2 (t := decide ((a0.Seats.length : Int) ≤ a2)) rfl (fun c2 => ?_) (fun c2 => ?_)
    · replace H := ct H c2
      refine T.exit ?_
      refine T.seq ?_
      refine T.seq ?_
      refine T.region ?_
      refine RunT.ot0 (x := .v (.bool false)) rfl rfl rfl rfl (.assignX rfl) ?_
      refine RunT.nil ?_
      obtain rfl := si H
      refine T.sub (sub_to (st' := ⟨[(6, .v (.bool false))], [], 8, []⟩) [] (by decide) rfl rfl (⟨⟨_, rfl, .one .v⟩, trivial⟩) (trivial)) ?_
      refine T.ret ?_
      exact RetOk.same [.v (.bool false)] ⟨rfl, trivial⟩ rfl rfl rfl
    · replace H := cf H c2
      refine T.skip ?_
      refine T.seq ?_
      refine T.region ?_
      refine RunT.ot0 (x := .v (.int .i64 a2)) rfl rfl rfl rfl (.moveX rfl) ?_
      refine RunT.ot0 (x := .lst (List.map eB a1)) rfl rfl rfl rfl (.moveX rfl) ?_
      refine RunT.ot0 (x := .v (.int .i64 (a1.length : Int))) rfl rfl rfl rfl (.lenLm Try.underlying43 rfl rfl) ?_
      refine RunT.ot0 (x := .v (.bool (decide ((a1.length : Int) ≤ a2)))) rfl rfl rfl rfl (.bin rfl rfl (fun w => b_geq w) rfl) ?_
      refine RunT.ot0 (x := .v (.bool (decide ((a1.length : Int) ≤ a2)))) rfl rfl rfl rfl (.assignX rfl) ?_
      refine RunT.nil ?_
      refine T.cond2 (t := decide ((a1.length : Int) ≤ a2)) rfl (fun c3 => ?_) (fun c3 => ?_)
      · replace H := ct H c3
        refine T.exit ?_
        refine T.seq ?_
        refine T.seq ?_
        refine T.sub (sub_pick [] [] (st' := ⟨[], [], 8, []⟩) rfl rfl rfl rfl rfl) ?_
        refine T.region ?_
        refine RunT.ot0 (x := .v (.bool false)) rfl rfl rfl rfl (.assignX rfl) ?_
        refine RunT.nil ?_
        obtain rfl := si H
        refine T.sub (sub_to (st' := ⟨[(6, .v (.bool false))], [], 8, []⟩) [] (by decide) rfl rfl (⟨⟨_, rfl, .one .v⟩, trivial⟩) (trivial)) ?_
        refine T.ret ?_
        exact RetOk.same [.v (.bool false)] ⟨rfl, trivial⟩ rfl rfl rfl
      · replace H := cf H c3
        refine T.skip ?_
        refine T.exit ?_
        refine T.seq ?_
        refine T.region ?_
        refine RunT.ot0 (x := .lst (List.map eB a1)) rfl rfl rfl rfl (.moveX rfl) ?_
        refine RunT.ot0 (x := .v (.int .i64 a2)) rfl rfl rfl rfl (.moveX rfl) ?_
        obtain ⟨y4, h5, H⟩ := bs H
        refine RunT.ot0 (x := .rptr [.v (.bool y4)]) rfl rfl rfl rfl (.idxLX h5 enc_B sl43 rfl rfl rfl) ?_
        refine RunT.ot0 (x := .v (.bool y4)) rfl rfl rfl rfl (.loadR ty4 rfl rfl) ?_
        refine RunT.ot0 (x := .v (.bool y4)) rfl rfl rfl rfl (.assignX rfl) ?_
        refine RunT.nil ?_
        obtain rfl := si H
        refine T.sub (sub_to (st' := ⟨[(6, .v (.bool y4))], [], 8, []⟩) [] (by decide) rfl rfl (⟨⟨_, rfl, .one .v⟩, trivial⟩) (trivial)) ?_
        refine T.ret ?_
        exact RetOk.same [.v (.bool y4)] ⟨rfl, trivial⟩ rfl rfl rfl
set_option maxHeartbeats 4000000 in
theorem run_long_pc (al : Bool) (k : Nat) (a0 : Venue) (a1 : (List Bool)) (a2 : Int) (a3 : Int) (o : Int) (H : run_long k a0 a1 a2 a3 = some o) : PC Try.prog al 101 [.agg [.lst (List.map eSeat a0.Seats), .v (.int .i64 a0.Gap), .v (.int .i64 a0.Radius), .lst (List.map eI a0.Kills), .lst (List.map ePole a0.Poles)], .lst (List.map eB a1), .v (.int .i64 a2), .v (.int .i64 a3)] (.v (.int .i64 o)) := by
  unfold run_long at H
  refine PC.of_T Try.func101 rfl rfl (n := 36) rfl rfl (.inr rfl) ?_
  intro base B w0
  refine T.st (st' := ⟨[(0, .agg [.lst (List.map eSeat a0.Seats), .v (.int .i64 a0.Gap), .v (.int .i64 a0.Radius), .lst (List.map eI a0.Kills), .lst (List.map ePole a0.Poles)]), (1, .lst (List.map eB a1)), (2, .v (.int .i64 a2)), (3, .v (.int .i64 a3))], [], 0, []⟩) rfl ?_
  refine T.seq ?_
  refine T.region ?_
  refine RunT.ot1 (x := .ptr 0 0) (p0 := (0, some (.box [.lst (List.map eSeat a0.Seats), .v (.int .i64 a0.Gap), .v (.int .i64 a0.Radius), .lst (List.map eI a0.Kills), .lst (List.map ePole a0.Poles)]))) (n' := 8) rfl rfl rfl rfl (.boxX rfl rfl rfl) rfl ?_
  refine RunT.ot0 (x := .v (.int .i64 0)) rfl rfl rfl rfl (.assignX rfl) ?_
  refine RunT.nil ?_
  refine T.seq ?_
  refine T.region ?_
  refine RunT.ot0 (x := .v (.int .i64 0)) rfl rfl rfl rfl (.assignX rfl) ?_
  refine RunT.nil ?_
  obtain ⟨o18, E19, HO20⟩ := bs H
  refine T.cut (⟨[(9, .v (.int .i64 o18))], [], 8, []⟩) ?_ ?_
  · have H := E19
    refine T.block ?_
    refine T.loopS (fun n s => ∃ (v21 : Int), run_long_l0 k a0 a1 a2 a3 n v21 = some o18 ∧ s = ⟨[(1, .lst (List.map eB a1)), (2, .v (.int .i64 a2)), (3, .v (.int .i64 a3)), (4, .ptr 0 0), (9, .v (.int .i64 v21))], [(0, some (.box [.lst (List.map eSeat a0.Seats), .v (.int .i64 a0.Gap), .v (.int .i64 a0.Radius), .lst (List.map eI a0.Kills), .lst (List.map ePole a0.Poles)]))], 8, []⟩) k ⟨_, ⟨0, H, rfl⟩, sub_to [some 0] (by decide) rfl rfl (⟨⟨_, rfl, .one .lst⟩, ⟨⟨_, rfl, .one .v⟩, ⟨⟨_, rfl, .one .v⟩, ⟨⟨_, rfl, .one (.ptr rfl)⟩, ⟨⟨_, rfl, .one .v⟩, trivial⟩⟩⟩⟩⟩) (⟨⟨rfl, .inl ⟨_, _, rfl, rfl, .box ⟨.lst, .v, .v, .lst, .lst, trivial⟩⟩⟩, trivial⟩)⟩ ?_
    rintro n s ⟨v21, H, rfl⟩
    rcases n with _ | n
    · cases (show none = some _ from H)
    rw [run_long_l0] at H
    refine T.seq ?_
    refine T.seq ?_
    refine T.sub (sub_pick [1, 2, 3, 4, 9] [0] (st' := ⟨[(1, .lst (List.map eB a1)), (2, .v (.int .i64 a2)), (3, .v (.int .i64 a3)), (4, .ptr 0 0), (9, .v (.int .i64 v21))], [(0, some (.box [.lst (List.map eSeat a0.Seats), .v (.int .i64 a0.Gap), .v (.int .i64 a0.Radius), .lst (List.map eI a0.Kills), .lst (List.map ePole a0.Poles)]))], 8, []⟩) rfl rfl rfl rfl rfl) ?_
    refine T.region ?_
    refine RunT.ot0 (x := .v (.int .i64 v21)) rfl rfl rfl rfl (.moveX rfl) ?_
    refine RunT.ot0 (x := .v (.int .i64 a3)) rfl rfl rfl rfl (.moveX rfl) ?_
    refine RunT.ot0 (x := .v (.bool (decide (v21 < a3)))) rfl rfl rfl rfl (.bin rfl rfl (fun w => b_lss w) rfl) ?_
    refine RunT.ot0 (x := .v (.bool (decide (v21 < a3)))) rfl rfl rfl rfl (.moveX rfl) ?_
    refine RunT.cases (t := 13) (c := decide (v21 < a3)) rfl (fun g22 => ?_) (fun g22 => ?_)
    · replace H := ct H g22
      refine RunT.gt0 (x := .agg [.lst (List.map eSeat a0.Seats), .v (.int .i64 a0.Gap), .v (.int .i64 a0.Radius), .lst (List.map eI a0.Kills), .lst (List.map ePole a0.Poles)]) rfl rfl rfl (bo g22) rfl rfl (.loadP ty26 rfl rfl rfl) ?_
      refine RunT.gt0 (x := .lst (List.map eB a1)) rfl rfl rfl (bo g22) rfl rfl (.moveX rfl) ?_
      refine RunT.gt0 (x := .v (.int .i64 a2)) rfl rfl rfl (bo g22) rfl rfl (.moveX rfl) ?_
      refine RunT.gt0 (x := .v (.int .i64 v21)) rfl rfl rfl (bo g22) rfl rfl (.moveX rfl) ?_
      refine RunT.gt0 (x := .v (.int .i64 (wr (a2 + v21)))) rfl rfl rfl (bo g22) rfl rfl (.bin rfl rfl (fun w => b_addw w) rfl) ?_
      obtain ⟨r23, h24, H⟩ := bs H
      refine RunT.gt0 (x := .v (.bool r23)) rfl rfl rfl (bo g22) rfl rfl (.callp (run_free_pc false k a0 a1 (wr (a2 + v21)) r23 h24) rfl ⟨(.agg' ⟨.lst, .v, .v, .lst, .lst, trivial⟩), (.one .lst), (.one .v), trivial⟩ rfl rfl rfl) ?_
      refine RunT.ot0 (x := .v (.bool r23)) rfl rfl rfl rfl (.pickT (bo g22) rfl) ?_
      refine RunT.ot0 (x := .v (.bool r23)) rfl rfl rfl rfl (.moveX rfl) ?_
      refine RunT.cases (t := 21) (c := r23) rfl (fun g25 => ?_) (fun g25 => ?_)
      · replace H := ct H g25
        refine RunT.gt0 (x := .v (.int .i64 v21)) rfl rfl rfl (bo g25) rfl rfl (.moveX rfl) ?_
        refine RunT.gt0 (x := .v (.bool (decide (v21 = 0)))) rfl rfl rfl (bo g25) rfl rfl (.bin rfl rfl (fun w => b_eql w) rfl) ?_
        refine RunT.gt0 (x := .v (.bool (decide (v21 = 0)))) rfl rfl rfl (bo g25) rfl rfl (.moveX rfl) ?_
        refine RunT.cases (t := 24) (c := decide (v21 = 0)) rfl (fun g26 => ?_) (fun g26 => ?_)
        · replace H := ct H g26
          refine RunT.xn rfl rfl rfl (bo g26) rfl rfl ?_
          refine RunT.xn rfl rfl rfl (bo g26) rfl rfl ?_
          refine RunT.xn rfl rfl rfl (bo g26) rfl rfl ?_
          refine RunT.xn rfl rfl rfl (bo g26) rfl rfl ?_
          refine RunT.xn rfl rfl rfl (bo g26) rfl rfl ?_
          refine RunT.xn rfl rfl rfl (bo g26) rfl rfl ?_
          refine RunT.gt0 (x := .v (.bool true)) rfl rfl rfl (bo g25) rfl rfl (.pickT (bo g26) rfl) ?_
          refine RunT.ot0 (x := .v (.bool true)) rfl rfl rfl rfl (.pickT (bo g25) rfl) ?_
          refine RunT.nil ?_
          refine T.condT rfl ?_
          refine T.skip ?_
          refine T.block ?_
          refine T.sub (sub_pick [1, 2, 3, 4, 9] [0] (st' := ⟨[(1, .lst (List.map eB a1)), (2, .v (.int .i64 a2)), (3, .v (.int .i64 a3)), (4, .ptr 0 0), (9, .v (.int .i64 v21))], [(0, some (.box [.lst (List.map eSeat a0.Seats), .v (.int .i64 a0.Gap), .v (.int .i64 a0.Radius), .lst (List.map eI a0.Kills), .lst (List.map ePole a0.Poles)]))], 8, []⟩) rfl rfl rfl rfl rfl) ?_
          refine T.region ?_
          refine RunT.ot0 (x := .v (.int .i64 v21)) rfl rfl rfl rfl (.moveX rfl) ?_
          refine RunT.ot0 (x := .v (.int .i64 (wr (v21 + 1)))) rfl rfl rfl rfl (.bin rfl rfl (fun w => b_addw w) rfl) ?_
          refine RunT.ot0 (x := .v (.int .i64 (wr (v21 + 1)))) rfl rfl rfl rfl (.assignX rfl) ?_
          refine RunT.nil ?_
          exact ⟨n, Nat.lt_succ_self n, _, ⟨wr (v21 + 1), H, rfl⟩, (sub_to [some 0] (by decide) rfl rfl (⟨⟨_, rfl, .one .lst⟩, ⟨⟨_, rfl, .one .v⟩, ⟨⟨_, rfl, .one .v⟩, ⟨⟨_, rfl, .one (.ptr rfl)⟩, ⟨⟨_, rfl, .one .v⟩, trivial⟩⟩⟩⟩⟩) (⟨⟨rfl, .inl ⟨_, _, rfl, rfl, .box ⟨.lst, .v, .v, .lst, .lst, trivial⟩⟩⟩, trivial⟩))⟩
        · replace H := cf H g26
          refine RunT.gt0 (x := .agg [.lst (List.map eSeat a0.Seats), .v (.int .i64 a0.Gap), .v (.int .i64 a0.Radius), .lst (List.map eI a0.Kills), .lst (List.map ePole a0.Poles)]) rfl rfl rfl (bo g26) rfl rfl (.loadP ty26 rfl rfl rfl) ?_
          refine RunT.gt0 (x := .v (.int .i64 a2)) rfl rfl rfl (bo g26) rfl rfl (.moveX rfl) ?_
          refine RunT.gt0 (x := .v (.int .i64 v21)) rfl rfl rfl (bo g26) rfl rfl (.moveX rfl) ?_
          refine RunT.gt0 (x := .v (.int .i64 (wr (a2 + v21)))) rfl rfl rfl (bo g26) rfl rfl (.bin rfl rfl (fun w => b_addw w) rfl) ?_
          refine RunT.gt0 (x := .v (.int .i64 (wr ((wr (a2 + v21)) - 1)))) rfl rfl rfl (bo g26) rfl rfl (.bin rfl rfl (fun w => b_subw w) rfl) ?_
          obtain ⟨r27, h28, H⟩ := bs H
          refine RunT.gt0 (x := .v (.bool r27)) rfl rfl rfl (bo g26) rfl rfl (.callp (run_next_pc false k a0 (wr ((wr (a2 + v21)) - 1)) r27 h28) rfl ⟨(.agg' ⟨.lst, .v, .v, .lst, .lst, trivial⟩), (.one .v), trivial⟩ rfl rfl rfl) ?_
          refine RunT.gt0 (x := .v (.bool r27)) rfl rfl rfl (bo g25) rfl rfl (.pickF (bo g26) rfl) ?_
          refine RunT.ot0 (x := .v (.bool r27)) rfl rfl rfl rfl (.pickT (bo g25) rfl) ?_
          refine RunT.nil ?_
          refine T.cond2 (t := r27) rfl (fun c29 => ?_) (fun c29 => ?_)
          · replace H := ct H c29
            refine T.skip ?_
            refine T.block ?_
            refine T.region ?_
            refine RunT.ot0 (x := .v (.int .i64 v21)) rfl rfl rfl rfl (.moveX rfl) ?_
            refine RunT.ot0 (x := .v (.int .i64 (wr (v21 + 1)))) rfl rfl rfl rfl (.bin rfl rfl (fun w => b_addw w) rfl) ?_
            refine RunT.ot0 (x := .v (.int .i64 (wr (v21 + 1)))) rfl rfl rfl rfl (.assignX rfl) ?_
            refine RunT.nil ?_
            exact ⟨n, Nat.lt_succ_self n, _, ⟨wr (v21 + 1), H, rfl⟩, (sub_to [some 0] (by decide) rfl rfl (⟨⟨_, rfl, .one .lst⟩, ⟨⟨_, rfl, .one .v⟩, ⟨⟨_, rfl, .one .v⟩, ⟨⟨_, rfl, .one (.ptr rfl)⟩, ⟨⟨_, rfl, .one .v⟩, trivial⟩⟩⟩⟩⟩) (⟨⟨rfl, .inl ⟨_, _, rfl, rfl, .box ⟨.lst, .v, .v, .lst, .lst, trivial⟩⟩⟩, trivial⟩))⟩
          · replace H := cf H c29
            refine T.exit ?_
            obtain rfl := si H
            exact (sub_to [] (by decide) rfl rfl (⟨⟨_, rfl, .one .v⟩, trivial⟩) (trivial))
      · replace H := cf H g25
        refine RunT.xn rfl rfl rfl (bo g25) rfl rfl ?_
        refine RunT.xn rfl rfl rfl (bo g25) rfl rfl ?_
        refine RunT.xn rfl rfl rfl (bo g25) rfl rfl ?_
        refine RunT.xu rfl rfl rfl rfl rfl rfl ?_
        refine RunT.xu rfl rfl rfl rfl rfl rfl ?_
        refine RunT.xu rfl rfl rfl rfl rfl rfl ?_
        refine RunT.xu rfl rfl rfl rfl rfl rfl ?_
        refine RunT.xu rfl rfl rfl rfl rfl rfl ?_
        refine RunT.xu rfl rfl rfl rfl rfl rfl ?_
        refine RunT.xn rfl rfl rfl (bo g25) rfl rfl ?_
        refine RunT.ot0 (x := .v (.bool false)) rfl rfl rfl rfl (.pickF (bo g25) rfl) ?_
        refine RunT.nil ?_
        refine T.condF rfl ?_
        refine T.exit ?_
        obtain rfl := si H
        exact (sub_to [] (by decide) rfl rfl (⟨⟨_, rfl, .one .v⟩, trivial⟩) (trivial))
    · replace H := cf H g22
      refine RunT.xn rfl rfl rfl (bo g22) rfl rfl ?_
      refine RunT.xn rfl rfl rfl (bo g22) rfl rfl ?_
      refine RunT.xn rfl rfl rfl (bo g22) rfl rfl ?_
      refine RunT.xn rfl rfl rfl (bo g22) rfl rfl ?_
      refine RunT.xn rfl rfl rfl (bo g22) rfl rfl ?_
      refine RunT.xn rfl rfl rfl (bo g22) rfl rfl ?_
      refine RunT.ot0 (x := .v (.bool false)) rfl rfl rfl rfl (.pickF (bo g22) rfl) ?_
      refine RunT.ot0 (x := .v (.bool false)) rfl rfl rfl rfl (.moveX rfl) ?_
      refine RunT.xn rfl rfl rfl rfl rfl rfl ?_
      refine RunT.xn rfl rfl rfl rfl rfl rfl ?_
      refine RunT.xn rfl rfl rfl rfl rfl rfl ?_
      refine RunT.xu rfl rfl rfl rfl rfl rfl ?_
      refine RunT.xu rfl rfl rfl rfl rfl rfl ?_
      refine RunT.xu rfl rfl rfl rfl rfl rfl ?_
      refine RunT.xu rfl rfl rfl rfl rfl rfl ?_
      refine RunT.xu rfl rfl rfl rfl rfl rfl ?_
      refine RunT.xu rfl rfl rfl rfl rfl rfl ?_
      refine RunT.xn rfl rfl rfl rfl rfl rfl ?_
      refine RunT.ot0 (x := .v (.bool false)) rfl rfl rfl rfl (.pickF rfl rfl) ?_
      refine RunT.nil ?_
      refine T.condF rfl ?_
      refine T.exit ?_
      obtain rfl := si H
      exact (sub_to [] (by decide) rfl rfl (⟨⟨_, rfl, .one .v⟩, trivial⟩) (trivial))
  · have H := HO20
    refine T.seq ?_
    refine T.sub (sub_pick [9] [] (st' := ⟨[(9, .v (.int .i64 o18))], [], 8, []⟩) rfl rfl rfl rfl rfl) ?_
    refine T.region ?_
    refine RunT.ot0 (x := .v (.int .i64 o18)) rfl rfl rfl rfl (.moveX rfl) ?_
    refine RunT.ot0 (x := .v (.int .i64 o18)) rfl rfl rfl rfl (.assignX rfl) ?_
    refine RunT.nil ?_
    obtain rfl := si H
    refine T.sub (sub_to (st' := ⟨[(8, .v (.int .i64 o18))], [], 8, []⟩) [] (by decide) rfl rfl (⟨⟨_, rfl, .one .v⟩, trivial⟩) (trivial)) ?_
    refine T.ret ?_
    exact RetOk.same [.v (.int .i64 o18)] ⟨rfl, trivial⟩ rfl rfl rfl
set_option maxHeartbeats 4000000 in
theorem run_piece_pc (al : Bool) (k : Nat) (a0 : Int) (a1 : Int) (o : (List Int)) (H : run_piece k a0 a1 = some o) : PC Try.prog al 103 [.v (.int .i64 a0), .v (.int .i64 a1)] (.frs 1 (List.map eI o)) := by
  unfold run_piece at H
  refine PC.of_T Try.func103 rfl rfl (n := 19) rfl rfl (.inr (flat1_frs (sz := 1) fl_I)) ?_
  intro base B w0
  refine T.st (st' := ⟨[(0, .v (.int .i64 a0)), (1, .v (.int .i64 a1))], [], 0, []⟩) rfl ?_
  refine T.seq ?_
  refine T.region ?_
  refine RunT.ot0 (x := .v (.slice none 0 0)) rfl rfl rfl rfl (.assignX rfl) ?_
  refine RunT.nil ?_
  refine T.seq ?_
  refine T.region ?_
  refine RunT.ot0 (x := .v (.slice none 0 0)) rfl rfl rfl rfl (.assignX rfl) ?_
  refine RunT.nil ?_
  refine T.seq ?_
  refine T.seq ?_
  refine T.region ?_
  refine RunT.ot0 (x := .v (.int .i64 a1)) rfl rfl rfl rfl (.moveX rfl) ?_
  refine RunT.ot0 (x := .v (.int .i64 0)) rfl rfl rfl rfl (.moveX rfl) ?_
  refine RunT.nil ?_
  obtain ⟨o7, E8, HO9⟩ := bs H
  refine T.cutE (⟨[(5, .own 0 0 o7.length)], [(0, some (.arr false 1 (List.map eI o7)))], 8, []⟩) ?_ ?_
  · have H := E8
    refine T.block ?_
    refine T.loopS (fun n s => ∃ (v10 : (List Int)) (v11 : Int), run_piece_l0 k a0 a1 n v10 v11 = some o7 ∧ s = ⟨[(0, .v (.int .i64 a0)), (5, .own 0 0 v10.length), (7, .v (.int .i64 a1)), (8, .v (.int .i64 v11))], [(0, some (.arr false 1 (List.map eI v10)))], 8, []⟩) k ⟨_, ⟨[], 0, H, rfl⟩, sub_to [none] (by decide) rfl rfl (⟨⟨_, rfl, .one .v⟩, ⟨⟨_, rfl, .one .nilO⟩, ⟨⟨_, rfl, .one .v⟩, ⟨⟨_, rfl, .one .v⟩, trivial⟩⟩⟩⟩) (⟨⟨rfl, .inr ⟨rfl, false, _, rfl, (by decide)⟩⟩, trivial⟩)⟩ ?_
    rintro n s ⟨v10, v11, H, rfl⟩
    rcases n with _ | n
    · cases (show none = some _ from H)
    rw [run_piece_l0] at H
    refine T.seq ?_
    refine T.region ?_
    refine RunT.ot0 (x := .v (.bool (decide (v11 < a1)))) rfl rfl rfl rfl (.bin rfl rfl (fun w => b_lss w) rfl) ?_
    refine RunT.nil ?_
    refine T.seq ?_
    refine T.cond2 (t := decide (v11 < a1)) rfl (fun c12 => ?_) (fun c12 => ?_)
    · replace H := ct H c12
      refine T.skip ?_
      refine T.seq ?_
      refine T.block ?_
      refine T.seq ?_
      refine T.region ?_
      refine RunT.ot0 (x := .v (.int .i64 v11)) rfl rfl rfl rfl (.moveX rfl) ?_
      refine RunT.ot0 (x := .v (.int .i64 v11)) rfl rfl rfl rfl (.assignX rfl) ?_
      refine RunT.nil ?_
      refine T.region ?_
      refine RunT.ot0 (x := .own 0 0 v10.length) rfl rfl rfl rfl (.moveX rfl) ?_
      refine RunT.ot0 (x := .v (.int .i64 a0)) rfl rfl rfl rfl (.moveX rfl) ?_
      refine RunT.ot0 (x := .v (.int .i64 v11)) rfl rfl rfl rfl (.moveX rfl) ?_
      refine RunT.ot0 (x := .v (.int .i64 (wr (a0 + v11)))) rfl rfl rfl rfl (.bin rfl rfl (fun w => b_addw w) rfl) ?_
      refine RunT.ot1 (x := .own 8 0 (([wr (a0 + v11)]).length)) (p0 := (8, some (.arr false 1 (List.map eI [wr (a0 + v11)])))) (n' := 16) rfl rfl rfl rfl (.bslicem (d := false) (l := [wr (a0 + v11)]) (f := eI) sl23 rfl rfl rfl enc_I rfl) rfl ?_
      obtain ⟨h13, H⟩ := gs H
      refine RunT.ot2 (x := .own 16 0 ((v10 ++ [wr (a0 + v11)]).length)) (p0 := (16, some (.arr false 1 (List.map eI (v10 ++ [wr (a0 + v11)]))))) (p1 := (0, none)) (n' := 24) rfl rfl rfl rfl (.appOn (d := false) (l := v10) (m := [wr (a0 + v11)]) (f := eI) rfl sl23 rfl rfl rfl (.ownn Try.underlying23 rfl rfl (fun h => by cases h)) rfl h13) rfl ?_
      refine RunT.ot0 (x := .own 16 0 ((v10 ++ [wr (a0 + v11)]).length)) rfl rfl rfl rfl (.assignX rfl) ?_
      refine RunT.nil ?_
      refine T.sub (sub_pick [0, 5, 7, 8] [16] (st' := ⟨[(0, .v (.int .i64 a0)), (5, .own 16 0 ((v10 ++ [wr (a0 + v11)]).length)), (7, .v (.int .i64 a1)), (8, .v (.int .i64 v11))], [(16, some (.arr false 1 (List.map eI (v10 ++ [wr (a0 + v11)]))))], 24, []⟩) rfl rfl rfl rfl rfl) ?_
      refine T.region ?_
      refine RunT.ot0 (x := .v (.int .i64 (wr (v11 + 1)))) rfl rfl rfl rfl (.bin rfl rfl (fun w => b_addw w) rfl) ?_
      refine RunT.ot0 (x := .v (.int .i64 (wr (v11 + 1)))) rfl rfl rfl rfl (.moveX rfl) ?_
      refine RunT.nil ?_
      exact ⟨n, Nat.lt_succ_self n, _, ⟨v10 ++ [wr (a0 + v11)], wr (v11 + 1), H, rfl⟩, (sub_to [some 16] (by decide) rfl rfl (⟨⟨_, rfl, .one .v⟩, ⟨⟨_, rfl, .one (.own rfl)⟩, ⟨⟨_, rfl, .one .v⟩, ⟨⟨_, rfl, .one .v⟩, trivial⟩⟩⟩⟩) (⟨⟨rfl, .inl ⟨_, _, rfl, rfl, .arr rfl⟩⟩, trivial⟩))⟩
    · replace H := cf H c12
      refine T.exit ?_
      obtain rfl := si H
      exact (sub_to [some 0] (by decide) rfl rfl (⟨⟨_, rfl, .one (.own rfl)⟩, trivial⟩) (⟨⟨rfl, .inl ⟨_, _, rfl, rfl, .arr rfl⟩⟩, trivial⟩))
  · intro s hS
    have H := HO9
    refine T.sub hS ?_
    refine T.seq ?_
    refine T.region ?_
    refine RunT.ot0 (x := .own 0 0 o7.length) rfl rfl rfl rfl (.moveX rfl) ?_
    refine RunT.ot0 (x := .own 0 0 o7.length) rfl rfl rfl rfl (.assignX rfl) ?_
    refine RunT.nil ?_
    obtain rfl := si H
    refine T.sub (sub_to (st' := ⟨[(4, .own 0 0 ((List.map eI o7).length))], [(0, some (.arr false 1 (List.map eI o7)))], 8, []⟩) [some 0] (by decide) rfl rfl (⟨⟨_, rfl, .one (.own' rfl (List.length_map _).symm)⟩, trivial⟩) (⟨⟨rfl, .inl ⟨_, _, rfl, rfl, .arr rfl⟩⟩, trivial⟩)) ?_
    refine T.ret ?_
    exact RetOk.same [.own 0 0 ((List.map eI o7).length)] ⟨rfl, trivial⟩ rfl rfl rfl
set_option maxHeartbeats 4000000 in
theorem run_Take_pc (al : Bool) (k : Nat) (a0 : Venue) (a1 : (List Bool)) (a2 : Int) (a3 : Int) (o : (List Int) × Bool) (H : run_Take k a0 a1 a2 a3 = some o) : PC Try.prog al 97 [.agg [.lst (List.map eSeat a0.Seats), .v (.int .i64 a0.Gap), .v (.int .i64 a0.Radius), .lst (List.map eI a0.Kills), .lst (List.map ePole a0.Poles)], .lst (List.map eB a1), .v (.int .i64 a2), .v (.int .i64 a3)] (.tup [.frs 1 (List.map eI o.1), .v (.bool o.2)]) := by
  unfold run_Take at H
  refine PC.of_T Try.func97 rfl rfl (n := 31) rfl rfl (.inr (flatT_tup ⟨(flat1_frs (sz := 1) fl_I), rfl, trivial⟩)) ?_
  intro base B w0
  refine T.st (st' := ⟨[(0, .agg [.lst (List.map eSeat a0.Seats), .v (.int .i64 a0.Gap), .v (.int .i64 a0.Radius), .lst (List.map eI a0.Kills), .lst (List.map ePole a0.Poles)]), (1, .lst (List.map eB a1)), (2, .v (.int .i64 a2)), (3, .v (.int .i64 a3))], [], 0, []⟩) rfl ?_
  refine T.seq ?_
  refine T.region ?_
  refine RunT.ot1 (x := .ptr 0 0) (p0 := (0, some (.box [.lst (List.map eSeat a0.Seats), .v (.int .i64 a0.Gap), .v (.int .i64 a0.Radius), .lst (List.map eI a0.Kills), .lst (List.map ePole a0.Poles)]))) (n' := 8) rfl rfl rfl rfl (.boxX rfl rfl rfl) rfl ?_
  refine RunT.ot0 (x := .v (.slice none 0 0)) rfl rfl rfl rfl (.assignX rfl) ?_
  refine RunT.ot0 (x := .v (.bool false)) rfl rfl rfl rfl (.assignX rfl) ?_
  refine RunT.nil ?_
  refine T.seq ?_
  refine T.seq ?_
  refine T.region ?_
  refine RunT.ot0 (x := .v (.int .i64 a3)) rfl rfl rfl rfl (.moveX rfl) ?_
  refine RunT.ot0 (x := .v (.bool (decide (a3 < 1)))) rfl rfl rfl rfl (.bin rfl rfl (fun w => b_lss w) rfl) ?_
  refine RunT.ot0 (x := .v (.bool (decide (a3 < 1)))) rfl rfl rfl rfl (.moveX rfl) ?_
  refine RunT.cases (t := 12) (c := decide (a3 < 1)) rfl (fun g1 => ?_) (fun g1 => ?_)
  · replace H := ct H g1
    refine RunT.xn rfl rfl rfl (bo g1) rfl rfl ?_
    refine RunT.xn rfl rfl rfl (bo g1) rfl rfl ?_
    refine RunT.xn rfl rfl rfl (bo g1) rfl rfl ?_
    refine RunT.xn rfl rfl rfl (bo g1) rfl rfl ?_
    refine RunT.xn rfl rfl rfl (bo g1) rfl rfl ?_
    refine RunT.ot0 (x := .v (.bool true)) rfl rfl rfl rfl (.pickT (bo g1) rfl) ?_
    refine RunT.ot0 (x := .v (.bool true)) rfl rfl rfl rfl (.moveX rfl) ?_
    refine RunT.xn rfl rfl rfl rfl rfl rfl ?_
    refine RunT.xn rfl rfl rfl rfl rfl rfl ?_
    refine RunT.xn rfl rfl rfl rfl rfl rfl ?_
    refine RunT.xn rfl rfl rfl rfl rfl rfl ?_
    refine RunT.xn rfl rfl rfl rfl rfl rfl ?_
    refine RunT.xn rfl rfl rfl rfl rfl rfl ?_
    refine RunT.xn rfl rfl rfl rfl rfl rfl ?_
    refine RunT.ot0 (x := .v (.bool true)) rfl rfl rfl rfl (.pickT rfl rfl) ?_
    refine RunT.nil ?_
    refine T.condT rfl ?_
    refine T.seq ?_
    refine T.region ?_
    refine RunT.ot0 (x := .v (.slice none 0 0)) rfl rfl rfl rfl (.assignX rfl) ?_
    refine RunT.ot0 (x := .v (.bool false)) rfl rfl rfl rfl (.assignX rfl) ?_
    refine RunT.nil ?_
    obtain rfl := si H
    refine T.sub (sub_to (st' := ⟨[(8, .own 0 0 0), (9, .v (.bool false))], [(0, some (.arr false 1 (List.map eI [])))], 8, []⟩) [none] (by decide) rfl rfl (⟨⟨_, rfl, .one .nilO⟩, ⟨⟨_, rfl, .one .v⟩, trivial⟩⟩) (⟨⟨rfl, .inr ⟨rfl, false, _, rfl, (by decide)⟩⟩, trivial⟩)) ?_
    refine T.ret ?_
    exact RetOk.same [.own 0 0 0, .v (.bool false)] ⟨rfl, rfl, trivial⟩ rfl rfl rfl
  · replace H := cf H g1
    refine RunT.gt0 (x := .v (.int .i64 a3)) rfl rfl rfl (bo g1) rfl rfl (.moveX rfl) ?_
    refine RunT.gt0 (x := .ptr 0 0) rfl rfl rfl (bo g1) rfl rfl (.fieldPX fl26_0 rfl rfl) ?_
    refine RunT.gt0 (x := .lst (List.map eSeat a0.Seats)) rfl rfl rfl (bo g1) rfl rfl (.loadP ty22 rfl rfl rfl) ?_
    refine RunT.gt0 (x := .v (.int .i64 (a0.Seats.length : Int))) rfl rfl rfl (bo g1) rfl rfl (.lenLm Try.underlying22 rfl rfl) ?_
    refine RunT.gt0 (x := .v (.bool (decide ((a0.Seats.length : Int) < a3)))) rfl rfl rfl (bo g1) rfl rfl (.bin rfl rfl (fun w => b_gtr w) rfl) ?_
    refine RunT.ot0 (x := .v (.bool (decide ((a0.Seats.length : Int) < a3)))) rfl rfl rfl rfl (.pickF (bo g1) rfl) ?_
    refine RunT.ot0 (x := .v (.bool (decide ((a0.Seats.length : Int) < a3)))) rfl rfl rfl rfl (.moveX rfl) ?_
    refine RunT.cases (t := 19) (c := decide ((a0.Seats.length : Int) < a3)) rfl (fun g2 => ?_) (fun g2 => ?_)
    · replace H := ct H g2
      refine RunT.xn rfl rfl rfl (bo g2) rfl rfl ?_
      refine RunT.xn rfl rfl rfl (bo g2) rfl rfl ?_
      refine RunT.xn rfl rfl rfl (bo g2) rfl rfl ?_
      refine RunT.xn rfl rfl rfl (bo g2) rfl rfl ?_
      refine RunT.xn rfl rfl rfl (bo g2) rfl rfl ?_
      refine RunT.xn rfl rfl rfl (bo g2) rfl rfl ?_
      refine RunT.xn rfl rfl rfl (bo g2) rfl rfl ?_
      refine RunT.ot0 (x := .v (.bool true)) rfl rfl rfl rfl (.pickT (bo g2) rfl) ?_
      refine RunT.nil ?_
      refine T.condT rfl ?_
      refine T.seq ?_
      refine T.sub (sub_pick [] [] (st' := ⟨[], [], 8, []⟩) rfl rfl rfl rfl rfl) ?_
      refine T.region ?_
      refine RunT.ot0 (x := .v (.slice none 0 0)) rfl rfl rfl rfl (.assignX rfl) ?_
      refine RunT.ot0 (x := .v (.bool false)) rfl rfl rfl rfl (.assignX rfl) ?_
      refine RunT.nil ?_
      obtain rfl := si H
      refine T.sub (sub_to (st' := ⟨[(8, .own 0 0 0), (9, .v (.bool false))], [(0, some (.arr false 1 (List.map eI [])))], 8, []⟩) [none] (by decide) rfl rfl (⟨⟨_, rfl, .one .nilO⟩, ⟨⟨_, rfl, .one .v⟩, trivial⟩⟩) (⟨⟨rfl, .inr ⟨rfl, false, _, rfl, (by decide)⟩⟩, trivial⟩)) ?_
      refine T.ret ?_
      exact RetOk.same [.own 0 0 0, .v (.bool false)] ⟨rfl, rfl, trivial⟩ rfl rfl rfl
    · replace H := cf H g2
      refine RunT.gt0 (x := .agg [.lst (List.map eSeat a0.Seats), .v (.int .i64 a0.Gap), .v (.int .i64 a0.Radius), .lst (List.map eI a0.Kills), .lst (List.map ePole a0.Poles)]) rfl rfl rfl (bo g2) rfl rfl (.loadP ty26 rfl rfl rfl) ?_
      refine RunT.gt0 (x := .lst (List.map eB a1)) rfl rfl rfl (bo g2) rfl rfl (.moveX rfl) ?_
      refine RunT.gt0 (x := .v (.int .i64 a2)) rfl rfl rfl (bo g2) rfl rfl (.moveX rfl) ?_
      refine RunT.gt0 (x := .v (.int .i64 a3)) rfl rfl rfl (bo g2) rfl rfl (.moveX rfl) ?_
      obtain ⟨r3, h4, H⟩ := bs H
      refine RunT.gt0 (x := .v (.int .i64 r3)) rfl rfl rfl (bo g2) rfl rfl (.callp (run_long_pc false k a0 a1 a2 a3 r3 h4) rfl ⟨(.agg' ⟨.lst, .v, .v, .lst, .lst, trivial⟩), (.one .lst), (.one .v), (.one .v), trivial⟩ rfl rfl rfl) ?_
      refine RunT.gt0 (x := .v (.int .i64 a3)) rfl rfl rfl (bo g2) rfl rfl (.moveX rfl) ?_
      refine RunT.gt0 (x := .v (.bool (decide (r3 < a3)))) rfl rfl rfl (bo g2) rfl rfl (.bin rfl rfl (fun w => b_lss w) rfl) ?_
      refine RunT.ot0 (x := .v (.bool (decide (r3 < a3)))) rfl rfl rfl rfl (.pickF (bo g2) rfl) ?_
      refine RunT.nil ?_
      refine T.cond2 (t := decide (r3 < a3)) rfl (fun c5 => ?_) (fun c5 => ?_)
      · replace H := ct H c5
        refine T.seq ?_
        refine T.region ?_
        refine RunT.ot0 (x := .v (.slice none 0 0)) rfl rfl rfl rfl (.assignX rfl) ?_
        refine RunT.ot0 (x := .v (.bool false)) rfl rfl rfl rfl (.assignX rfl) ?_
        refine RunT.nil ?_
        obtain rfl := si H
        refine T.sub (sub_to (st' := ⟨[(8, .own 0 0 0), (9, .v (.bool false))], [(0, some (.arr false 1 (List.map eI [])))], 8, []⟩) [none] (by decide) rfl rfl (⟨⟨_, rfl, .one .nilO⟩, ⟨⟨_, rfl, .one .v⟩, trivial⟩⟩) (⟨⟨rfl, .inr ⟨rfl, false, _, rfl, (by decide)⟩⟩, trivial⟩)) ?_
        refine T.ret ?_
        exact RetOk.same [.own 0 0 0, .v (.bool false)] ⟨rfl, rfl, trivial⟩ rfl rfl rfl
      · replace H := cf H c5
        refine T.skip ?_
        refine T.seq ?_
        refine T.region ?_
        refine RunT.ot0 (x := .v (.int .i64 a2)) rfl rfl rfl rfl (.moveX rfl) ?_
        refine RunT.ot0 (x := .v (.int .i64 a3)) rfl rfl rfl rfl (.moveX rfl) ?_
        obtain ⟨r6, h7, H⟩ := bs H
        refine RunT.ot1 (x := .own 8 0 ((List.map eI r6).length)) (p0 := (8, some (.arr false 1 (List.map eI r6)))) (n' := 16) rfl rfl rfl rfl (.callp (run_piece_pc false k a2 a3 r6 h7) rfl ⟨(.one .v), (.one .v), trivial⟩ rfl rfl rfl) rfl ?_
        refine RunT.ot0 (x := .own 8 0 ((List.map eI r6).length)) rfl rfl rfl rfl (.assignX rfl) ?_
        refine RunT.ot0 (x := .v (.bool true)) rfl rfl rfl rfl (.assignX rfl) ?_
        refine RunT.nil ?_
        obtain rfl := si H
        refine T.sub (sub_to (st' := ⟨[(8, .own 0 0 ((List.map eI r6).length)), (9, .v (.bool true))], [(0, some (.arr false 1 (List.map eI r6)))], 8, []⟩) [some 8] (by decide) rfl rfl (⟨⟨_, rfl, .one (.own' rfl ((List.length_map _).trans (List.length_map _).symm))⟩, ⟨⟨_, rfl, .one .v⟩, trivial⟩⟩) (⟨⟨rfl, .inl ⟨_, _, rfl, rfl, .arr rfl⟩⟩, trivial⟩)) ?_
        refine T.ret ?_
        exact RetOk.same [.own 0 0 ((List.map eI r6).length), .v (.bool true)] ⟨rfl, rfl, trivial⟩ rfl rfl rfl
end Go.Proofs.Ytlfpkjlaajfjnaa
