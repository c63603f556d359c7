/- The Go functions come to just what their plain forms come to: one contract each. -/
import Derived.Test.YtijfhnpmdhonhaaE
set_option linter.unusedVariables false
set_option linter.unusedSimpArgs false
set_option maxRecDepth 100000
namespace Go.Proofs.Ytijfhnpmdhonhaa
open Go Go.Sh Go.Px
attribute [local irreducible] Go.Sh.T Go.Sh.RunT Go.Sh.RunD
set_option maxHeartbeats 4000000 in
theorem tree_Size_pc (al : Bool) (k : Nat) (a0 : (List Bool)) (o : Int × Int) (H : tree_Size k a0 = some o) : PC Try.prog al 24 [.lst (List.map eB a0)] (.tup [.v (.int .i64 o.1), .v (.int .i64 o.2)]) := by
  unfold tree_Size at H
  refine PC.of_T Try.func24 rfl rfl (n := 23) rfl rfl (.inr (flatT_tup ⟨rfl, rfl, trivial⟩)) ?_
  intro base B w0
  refine T.st (st' := ⟨[(0, .lst (List.map eB a0))], [], 0, []⟩) rfl ?_
  refine T.seq ?_
  refine T.region ?_
  refine RunT.ot0 (x := .v (.int .i64 0)) rfl rfl rfl rfl (.assignX rfl) ?_
  refine RunT.ot0 (x := .v (.int .i64 0)) rfl rfl rfl rfl (.assignX rfl) ?_
  refine RunT.nil ?_
  refine T.seq ?_
  refine T.region ?_
  refine RunT.ot0 (x := .v (.int .i64 0)) rfl rfl rfl rfl (.assignX rfl) ?_
  refine RunT.ot0 (x := .v (.int .i64 0)) rfl rfl rfl rfl (.assignX rfl) ?_
  refine RunT.nil ?_
  refine T.seq ?_
  refine T.seq ?_
  refine T.region ?_
  refine RunT.ot0 (x := .lst (List.map eB a0)) rfl rfl rfl rfl (.moveX rfl) ?_
  refine RunT.ot0 (x := .v (.int .i64 (a0.length : Int))) rfl rfl rfl rfl (.lenLm Try.underlying34 rfl rfl) ?_
  refine RunT.ot0 (x := .v (.int .i64 0)) rfl rfl rfl rfl (.moveX rfl) ?_
  refine RunT.nil ?_
  obtain ⟨o12, E13, HO14⟩ := bs H
  refine T.cutE (⟨[(4, .v (.int .i64 o12.1)), (5, .v (.int .i64 o12.2))], [], 8, []⟩) ?_ ?_
  · have H := E13
    refine T.block ?_
    refine T.loopS (fun n s => ∃ (v15 : Int) (v16 : Int) (v17 : Int), tree_Size_l0 k a0 n v15 v16 v17 = some o12 ∧ s = ⟨[(4, .v (.int .i64 v15)), (5, .v (.int .i64 v16)), (8, .lst (List.map eB a0)), (9, .v (.int .i64 (a0.length : Int))), (10, .v (.int .i64 v17))], [], 8, []⟩) k ⟨_, ⟨0, 0, 0, H, rfl⟩, sub_to [] (by decide) rfl rfl (⟨⟨_, rfl, .one .v⟩, ⟨⟨_, rfl, .one .v⟩, ⟨⟨_, rfl, .one .lst⟩, ⟨⟨_, rfl, .one .v⟩, ⟨⟨_, rfl, .one .v⟩, trivial⟩⟩⟩⟩⟩) (trivial)⟩ ?_
    rintro n s ⟨v15, v16, v17, H, rfl⟩
    rcases n with _ | n
    · cases (show none = some _ from H)
    rw [tree_Size_l0] at H
    refine T.seq ?_
    refine T.region ?_
    refine RunT.ot0 (x := .v (.bool (decide (v17 < (a0.length : Int))))) rfl rfl rfl rfl (.bin rfl rfl (fun w => b_lss w) rfl) ?_
    refine RunT.nil ?_
    refine T.seq ?_
    refine T.cond2 (t := decide (v17 < (a0.length : Int))) rfl (fun c18 => ?_) (fun c18 => ?_)
    · replace H := ct H c18
      refine T.skip ?_
      refine T.seq ?_
      refine T.block ?_
      refine T.seq ?_
      refine T.region ?_
      obtain ⟨y19, h20, H⟩ := bs H
      refine RunT.ot0 (x := .rptr [.v (.bool y19)]) rfl rfl rfl rfl (.idxLX h20 enc_B sl34 rfl rfl rfl) ?_
      refine RunT.ot0 (x := .v (.bool y19)) rfl rfl rfl rfl (.loadR ty4 rfl rfl) ?_
      refine RunT.ot0 (x := .v (.bool y19)) rfl rfl rfl rfl (.assignX rfl) ?_
      refine RunT.nil ?_
      refine T.block ?_
      refine T.seq ?_
      refine T.region ?_
      refine RunT.ot0 (x := .v (.bool y19)) rfl rfl rfl rfl (.moveX rfl) ?_
      refine RunT.ot0 (x := .v (.bool y19)) rfl rfl rfl rfl (.assignX rfl) ?_
      refine RunT.nil ?_
      refine T.cond2 (t := y19) rfl (fun c21 => ?_) (fun c21 => ?_)
      · replace H := ct H c21
        refine T.region ?_
        refine RunT.ot0 (x := .v (.int .i64 v15)) rfl rfl rfl rfl (.moveX rfl) ?_
        refine RunT.ot0 (x := .v (.int .i64 (wr (v15 + 1)))) rfl rfl rfl rfl (.bin rfl rfl (fun w => b_addw w) rfl) ?_
        refine RunT.ot0 (x := .v (.int .i64 (wr (v15 + 1)))) rfl rfl rfl rfl (.assignX rfl) ?_
        refine RunT.nil ?_
        refine T.sub (sub_pick [4, 5, 8, 9, 10] [] (st' := ⟨[(4, .v (.int .i64 (wr (v15 + 1)))), (5, .v (.int .i64 v16)), (8, .lst (List.map eB a0)), (9, .v (.int .i64 (a0.length : Int))), (10, .v (.int .i64 v17))], [], 8, []⟩) rfl rfl rfl rfl rfl) ?_
        refine T.region ?_
        refine RunT.ot0 (x := .v (.int .i64 (wr (v17 + 1)))) rfl rfl rfl rfl (.bin rfl rfl (fun w => b_addw w) rfl) ?_
        refine RunT.ot0 (x := .v (.int .i64 (wr (v17 + 1)))) rfl rfl rfl rfl (.moveX rfl) ?_
        refine RunT.nil ?_
        exact ⟨n, Nat.lt_succ_self n, _, ⟨wr (v15 + 1), v16, wr (v17 + 1), H, rfl⟩, (sub_to [] (by decide) rfl rfl (⟨⟨_, rfl, .one .v⟩, ⟨⟨_, rfl, .one .v⟩, ⟨⟨_, rfl, .one .lst⟩, ⟨⟨_, rfl, .one .v⟩, ⟨⟨_, rfl, .one .v⟩, trivial⟩⟩⟩⟩⟩) (trivial))⟩
      · replace H := cf H c21
        refine T.region ?_
        refine RunT.ot0 (x := .v (.int .i64 v16)) rfl rfl rfl rfl (.moveX rfl) ?_
        refine RunT.ot0 (x := .v (.int .i64 (wr (v16 + 1)))) rfl rfl rfl rfl (.bin rfl rfl (fun w => b_addw w) rfl) ?_
        refine RunT.ot0 (x := .v (.int .i64 (wr (v16 + 1)))) rfl rfl rfl rfl (.assignX rfl) ?_
        refine RunT.nil ?_
        refine T.region ?_
        refine RunT.ot0 (x := .v (.int .i64 (wr (v17 + 1)))) rfl rfl rfl rfl (.bin rfl rfl (fun w => b_addw w) rfl) ?_
        refine RunT.ot0 (x := .v (.int .i64 (wr (v17 + 1)))) rfl rfl rfl rfl (.moveX rfl) ?_
        refine RunT.nil ?_
        exact ⟨n, Nat.lt_succ_self n, _, ⟨v15, wr (v16 + 1), wr (v17 + 1), H, rfl⟩, (sub_to [] (by decide) rfl rfl (⟨⟨_, rfl, .one .v⟩, ⟨⟨_, rfl, .one .v⟩, ⟨⟨_, rfl, .one .lst⟩, ⟨⟨_, rfl, .one .v⟩, ⟨⟨_, rfl, .one .v⟩, trivial⟩⟩⟩⟩⟩) (trivial))⟩
    · replace H := cf H c18
      refine T.exit ?_
      obtain rfl := si H
      exact (sub_to [] (by decide) rfl rfl (⟨⟨_, rfl, .one .v⟩, ⟨⟨_, rfl, .one .v⟩, trivial⟩⟩) (trivial))
  · intro s hS
    have H := HO14
    refine T.sub hS ?_
    refine T.seq ?_
    refine T.region ?_
    refine RunT.ot0 (x := .v (.int .i64 o12.1)) rfl rfl rfl rfl (.moveX rfl) ?_
    refine RunT.ot0 (x := .v (.int .i64 o12.2)) rfl rfl rfl rfl (.moveX rfl) ?_
    refine RunT.ot0 (x := .v (.int .i64 o12.1)) rfl rfl rfl rfl (.assignX rfl) ?_
    refine RunT.ot0 (x := .v (.int .i64 o12.2)) rfl rfl rfl rfl (.assignX rfl) ?_
    refine RunT.nil ?_
    obtain rfl := si H
    refine T.sub (sub_to (st' := ⟨[(2, .v (.int .i64 o12.1)), (3, .v (.int .i64 o12.2))], [], 8, []⟩) [] (by decide) rfl rfl (⟨⟨_, rfl, .one .v⟩, ⟨⟨_, rfl, .one .v⟩, trivial⟩⟩) (trivial)) ?_
    refine T.ret ?_
    exact RetOk.same [.v (.int .i64 o12.1), .v (.int .i64 o12.2)] ⟨rfl, rfl, trivial⟩ rfl rfl rfl
set_option maxHeartbeats 4000000 in
theorem tree_Bytes_pc (al : Bool) (k : Nat) (a0 : (List Bool)) (o : (List Int)) (H : tree_Bytes k a0 = some o) : PC Try.prog al 27 [.lst (List.map eB a0)] (.frs 1 (List.map eU8 o)) := by
  unfold tree_Bytes at H
  refine PC.of_T Try.func27 rfl rfl (n := 50) rfl rfl (.inr (flat1_frs (sz := 1) fl_U8)) ?_
  intro base B w0
  refine T.st (st' := ⟨[(0, .lst (List.map eB a0))], [], 0, []⟩) rfl ?_
  refine T.seq ?_
  refine T.region ?_
  refine RunT.ot0 (x := .v (.slice none 0 0)) rfl rfl rfl rfl (.assignX rfl) ?_
  refine RunT.nil ?_
  refine T.seq ?_
  refine T.region ?_
  refine RunT.ot0 (x := .lst (List.map eB a0)) rfl rfl rfl rfl (.moveX rfl) ?_
  refine RunT.ot0 (x := .v (.int .i64 (a0.length : Int))) rfl rfl rfl rfl (.lenLm Try.underlying34 rfl rfl) ?_
  refine RunT.ot0 (x := .v (.int .i64 (wr ((a0.length : Int) + 8)))) rfl rfl rfl rfl (.bin rfl rfl (fun w => b_addw w) rfl) ?_
  refine RunT.ot0 (x := .v (.int .i64 (wr ((wr ((a0.length : Int) + 8)) - 1)))) rfl rfl rfl rfl (.bin rfl rfl (fun w => b_subw w) rfl) ?_
  refine RunT.ot0 (x := .v (.int .i64 (wr ((wr ((wr ((a0.length : Int) + 8)) - 1)).tdiv 8)))) rfl rfl rfl rfl (.bin rfl rfl (fun w => b_quow w (by decide)) rfl) ?_
  refine RunT.ot0 (x := .v (.int .i64 (wr (4 + (wr ((wr ((wr ((a0.length : Int) + 8)) - 1)).tdiv 8)))))) rfl rfl rfl rfl (.bin rfl rfl (fun w => b_addw w) rfl) ?_
  obtain ⟨h1, H⟩ := gs H
  refine RunT.ot1 (x := .own 0 0 ((List.replicate (wr (4 + (wr ((wr ((wr ((a0.length : Int) + 8)) - 1)).tdiv 8)))).toNat 0).length)) (p0 := (0, some (.arr false 1 (List.map eU8 (List.replicate (wr (4 + (wr ((wr ((wr ((a0.length : Int) + 8)) - 1)).tdiv 8)))).toNat 0))))) (n' := 8) rfl rfl rfl rfl (.mkslicem (d := false) (z' := 0) (f := eU8) sl35 rfl rfl in5.zero rfl enc_U8 h1) rfl ?_
  refine RunT.ot0 (x := .own 0 0 ((List.replicate (wr (4 + (wr ((wr ((wr ((a0.length : Int) + 8)) - 1)).tdiv 8)))).toNat 0).length)) rfl rfl rfl rfl (.assignX rfl) ?_
  refine RunT.nil ?_
  refine T.seq ?_
  refine T.seq ?_
  refine T.region ?_
  refine RunT.ot0 (x := .v (.int .i64 0)) rfl rfl rfl rfl (.moveX rfl) ?_
  refine RunT.nil ?_
  obtain ⟨o12, E13, HO14⟩ := bs H
  refine T.cutE (⟨[(0, .lst (List.map eB a0)), (3, .own 0 0 o12.length)], [(0, some (.arr false 1 (List.map eU8 o12)))], 8, []⟩) ?_ ?_
  · have H := E13
    refine T.block ?_
    refine T.loopS (fun n s => ∃ (v15 : (List Int)) (v16 : Int), tree_Bytes_l0 k a0 n v15 v16 = some o12 ∧ s = ⟨[(0, .lst (List.map eB a0)), (3, .own 0 0 v15.length), (14, .v (.int .i64 v16))], [(0, some (.arr false 1 (List.map eU8 v15)))], 8, []⟩) k ⟨_, ⟨List.replicate (wr (4 + (wr ((wr ((wr ((a0.length : Int) + 8)) - 1)).tdiv 8)))).toNat 0, 0, H, rfl⟩, sub_to [some 0] (by decide) rfl rfl (⟨⟨_, rfl, .one .lst⟩, ⟨⟨_, rfl, .one (.own rfl)⟩, ⟨⟨_, rfl, .one .v⟩, trivial⟩⟩⟩) (⟨⟨rfl, .inl ⟨_, _, rfl, rfl, .arr rfl⟩⟩, trivial⟩)⟩ ?_
    rintro n s ⟨v15, v16, H, rfl⟩
    rcases n with _ | n
    · cases (show none = some _ from H)
    rw [tree_Bytes_l0] at H
    refine T.seq ?_
    refine T.region ?_
    refine RunT.ot0 (x := .v (.bool (decide (v16 < 4)))) rfl rfl rfl rfl (.bin rfl rfl (fun w => b_lss w) rfl) ?_
    refine RunT.nil ?_
    refine T.seq ?_
    refine T.cond2 (t := decide (v16 < 4)) rfl (fun c17 => ?_) (fun c17 => ?_)
    · replace H := ct H c17
      refine T.skip ?_
      refine T.seq ?_
      refine T.block ?_
      refine T.seq ?_
      refine T.region ?_
      refine RunT.ot0 (x := .v (.int .i64 v16)) rfl rfl rfl rfl (.moveX rfl) ?_
      refine RunT.ot0 (x := .v (.int .i64 v16)) rfl rfl rfl rfl (.assignX rfl) ?_
      refine RunT.nil ?_
      refine T.region ?_
      refine RunT.ot0 (x := .own 0 0 v15.length) rfl rfl rfl rfl (.moveX rfl) ?_
      refine RunT.ot0 (x := .v (.int .i64 v16)) rfl rfl rfl rfl (.moveX rfl) ?_
      refine RunT.ot0 (x := .lst (List.map eB a0)) rfl rfl rfl rfl (.moveX rfl) ?_
      refine RunT.ot0 (x := .v (.int .i64 (a0.length : Int))) rfl rfl rfl rfl (.lenLm Try.underlying34 rfl rfl) ?_
      refine RunT.ot0 (x := .v (.int .i64 v16)) rfl rfl rfl rfl (.moveX rfl) ?_
      refine RunT.ot0 (x := .v (.int .i64 (wr (8 * v16)))) rfl rfl rfl rfl (.bin rfl rfl (fun w => b_mulw w) rfl) ?_
      refine RunT.ot0 (x := .v (.int .u64 (IntKind.u64.wrap (wr (8 * v16))))) rfl rfl rfl rfl (.conv rfl (fun w => c_int w ⟨_, Try.underlying3⟩ Try.underlying31) rfl) ?_
      obtain ⟨h18, H⟩ := gs H
      refine RunT.ot0 (x := .v (.int .i64 ((a0.length : Int).fdiv (2 ^ (min (IntKind.u64.wrap (wr (8 * v16))).toNat IntKind.i64.bits))))) rfl rfl rfl rfl (.bin rfl rfl (fun w => b_shr w (of_decide_eq_true h18)) rfl) ?_
      refine RunT.ot0 (x := .v (.int .u8 (IntKind.u8.wrap ((a0.length : Int).fdiv (2 ^ (min (IntKind.u64.wrap (wr (8 * v16))).toNat IntKind.i64.bits)))))) rfl rfl rfl rfl (.conv rfl (fun w => c_int w ⟨_, Try.underlying3⟩ Try.underlying5) rfl) ?_
      obtain ⟨y19, h20, H⟩ := bs H
      refine RunT.ot0 (x := .eptr 0 v16.toNat 0) rfl rfl rfl rfl (.idxOn rfl sl35 rfl rfl rfl h20) ?_
      refine RunT.on1 (x := .junk) (p0 := (0, some (.arr false 1 (List.map eU8 (v15.set v16.toNat (IntKind.u8.wrap ((a0.length : Int).fdiv (2 ^ (min (IntKind.u64.wrap (wr (8 * v16))).toNat IntKind.i64.bits))))))))) (n' := 16) rfl rfl rfl (.storeEm (z' := IntKind.u8.wrap ((a0.length : Int).fdiv (2 ^ (min (IntKind.u64.wrap (wr (8 * v16))).toNat IntKind.i64.bits)))) ty5 rfl rfl rfl rfl rfl (ixs h20).2.1 rfl (fun _ => rfl) rfl) rfl ?_
      refine RunT.nil ?_
      refine T.sub (sub_pick [0, 3, 14] [0] (st' := ⟨[(0, .lst (List.map eB a0)), (3, .own 0 0 v15.length), (14, .v (.int .i64 v16))], [(0, some (.arr false 1 (List.map eU8 (v15.set v16.toNat (IntKind.u8.wrap ((a0.length : Int).fdiv (2 ^ (min (IntKind.u64.wrap (wr (8 * v16))).toNat IntKind.i64.bits))))))))], 16, []⟩) rfl rfl rfl rfl rfl) ?_
      refine T.region ?_
      refine RunT.ot0 (x := .v (.int .i64 (wr (v16 + 1)))) rfl rfl rfl rfl (.bin rfl rfl (fun w => b_addw w) rfl) ?_
      refine RunT.ot0 (x := .v (.int .i64 (wr (v16 + 1)))) rfl rfl rfl rfl (.moveX rfl) ?_
      refine RunT.nil ?_
      exact ⟨n, Nat.lt_succ_self n, _, ⟨v15.set v16.toNat (IntKind.u8.wrap ((a0.length : Int).fdiv (2 ^ (min (IntKind.u64.wrap (wr (8 * v16))).toNat IntKind.i64.bits)))), wr (v16 + 1), H, rfl⟩, (sub_to [some 0] (by decide) rfl rfl (⟨⟨_, rfl, .one .lst⟩, ⟨⟨_, rfl, .one (.own' rfl (List.length_set ..).symm)⟩, ⟨⟨_, rfl, .one .v⟩, trivial⟩⟩⟩) (⟨⟨rfl, .inl ⟨_, _, rfl, rfl, .arr rfl⟩⟩, trivial⟩))⟩
    · replace H := cf H c17
      refine T.exit ?_
      obtain rfl := si H
      exact (sub_to [some 0] (by decide) rfl rfl (⟨⟨_, rfl, .one .lst⟩, ⟨⟨_, rfl, .one (.own rfl)⟩, trivial⟩⟩) (⟨⟨rfl, .inl ⟨_, _, rfl, rfl, .arr rfl⟩⟩, trivial⟩))
  · intro s hS
    have H := HO14
    refine T.sub hS ?_
    refine T.seq ?_
    refine T.seq ?_
    refine T.region ?_
    refine RunT.ot0 (x := .lst (List.map eB a0)) rfl rfl rfl rfl (.moveX rfl) ?_
    refine RunT.ot0 (x := .v (.int .i64 (a0.length : Int))) rfl rfl rfl rfl (.lenLm Try.underlying34 rfl rfl) ?_
    refine RunT.ot0 (x := .v (.int .i64 0)) rfl rfl rfl rfl (.moveX rfl) ?_
    refine RunT.nil ?_
    obtain ⟨o41, E42, HO43⟩ := bs H
    refine T.cutE (⟨[(3, .own 0 0 o41.length)], [(0, some (.arr false 1 (List.map eU8 o41)))], 8, []⟩) ?_ ?_
    · have H := E42
      refine T.block ?_
      refine T.loopS (fun n s => ∃ (v44 : (List Int)) (v45 : Int), tree_Bytes_l1 k a0 n v44 v45 = some o41 ∧ s = ⟨[(3, .own 0 0 v44.length), (28, .lst (List.map eB a0)), (29, .v (.int .i64 (a0.length : Int))), (30, .v (.int .i64 v45))], [(0, some (.arr false 1 (List.map eU8 v44)))], 8, []⟩) k ⟨_, ⟨o12, 0, H, rfl⟩, sub_to [some 0] (by decide) rfl rfl (⟨⟨_, rfl, .one (.own rfl)⟩, ⟨⟨_, rfl, .one .lst⟩, ⟨⟨_, rfl, .one .v⟩, ⟨⟨_, rfl, .one .v⟩, trivial⟩⟩⟩⟩) (⟨⟨rfl, .inl ⟨_, _, rfl, rfl, .arr rfl⟩⟩, trivial⟩)⟩ ?_
      rintro n s ⟨v44, v45, H, rfl⟩
      rcases n with _ | n
      · cases (show none = some _ from H)
      rw [tree_Bytes_l1] at H
      refine T.seq ?_
      refine T.region ?_
      refine RunT.ot0 (x := .v (.bool (decide (v45 < (a0.length : Int))))) rfl rfl rfl rfl (.bin rfl rfl (fun w => b_lss w) rfl) ?_
      refine RunT.nil ?_
      refine T.seq ?_
      refine T.cond2 (t := decide (v45 < (a0.length : Int))) rfl (fun c46 => ?_) (fun c46 => ?_)
      · replace H := ct H c46
        refine T.skip ?_
        refine T.seq ?_
        refine T.block ?_
        refine T.seq ?_
        refine T.region ?_
        refine RunT.ot0 (x := .v (.int .i64 v45)) rfl rfl rfl rfl (.moveX rfl) ?_
        obtain ⟨y47, h48, H⟩ := bs H
        refine RunT.ot0 (x := .rptr [.v (.bool y47)]) rfl rfl rfl rfl (.idxLX h48 enc_B sl34 rfl rfl rfl) ?_
        refine RunT.ot0 (x := .v (.bool y47)) rfl rfl rfl rfl (.loadR ty4 rfl rfl) ?_
        refine RunT.ot0 (x := .v (.int .i64 v45)) rfl rfl rfl rfl (.assignX rfl) ?_
        refine RunT.ot0 (x := .v (.bool y47)) rfl rfl rfl rfl (.assignX rfl) ?_
        refine RunT.nil ?_
        refine T.seq ?_
        refine T.region ?_
        refine RunT.ot0 (x := .v (.bool y47)) rfl rfl rfl rfl (.moveX rfl) ?_
        refine RunT.nil ?_
        refine T.cond2 (t := y47) rfl (fun c49 => ?_) (fun c49 => ?_)
        · replace H := ct H c49
          refine T.region ?_
          refine RunT.ot0 (x := .own 0 0 v44.length) rfl rfl rfl rfl (.moveX rfl) ?_
          refine RunT.ot0 (x := .v (.int .i64 v45)) rfl rfl rfl rfl (.moveX rfl) ?_
          refine RunT.ot0 (x := .v (.int .i64 (wr (v45.tdiv 8)))) rfl rfl rfl rfl (.bin rfl rfl (fun w => b_quow w (by decide)) rfl) ?_
          refine RunT.ot0 (x := .v (.int .i64 (wr (4 + (wr (v45.tdiv 8)))))) rfl rfl rfl rfl (.bin rfl rfl (fun w => b_addw w) rfl) ?_
          obtain ⟨y50, h51, H⟩ := bs H
          refine RunT.ot0 (x := .eptr 0 (wr (4 + (wr (v45.tdiv 8)))).toNat 0) rfl rfl rfl rfl (.idxOn rfl sl35 rfl rfl rfl h51) ?_
          refine RunT.ot0 (x := .v (.int .u8 y50)) rfl rfl rfl rfl (.loadEm ty5 rfl rfl (ixs h51).2.1 rfl) ?_
          refine RunT.ot0 (x := .v (.int .i64 v45)) rfl rfl rfl rfl (.moveX rfl) ?_
          refine RunT.ot0 (x := .v (.int .i64 (v45.tmod 8))) rfl rfl rfl rfl (.bin rfl rfl (fun w => b_rem w (by decide)) rfl) ?_
          refine RunT.ot0 (x := .v (.int .u64 (IntKind.u64.wrap (v45.tmod 8)))) rfl rfl rfl rfl (.conv rfl (fun w => c_int w ⟨_, Try.underlying3⟩ Try.underlying31) rfl) ?_
          obtain ⟨h52, H⟩ := gs H
          refine RunT.ot0 (x := .v (.int .u8 (IntKind.u8.wrap (1 * 2 ^ (min (IntKind.u64.wrap (v45.tmod 8)).toNat IntKind.u8.bits))))) rfl rfl rfl rfl (.bin rfl rfl (fun w => b_shl w (of_decide_eq_true h52)) rfl) ?_
          refine RunT.ot0 (x := .v (.int .u8 (IntKind.u8.wrap (((BitVec.ofInt IntKind.u8.bits y50 ||| BitVec.ofInt IntKind.u8.bits (IntKind.u8.wrap (1 * 2 ^ (min (IntKind.u64.wrap (v45.tmod 8)).toNat IntKind.u8.bits)))).toNat : Nat) : Int)))) rfl rfl rfl rfl (.bin rfl rfl (fun w => b_or' w rfl) rfl) ?_
          obtain ⟨y53, h54, H⟩ := bs H
          refine RunT.ot0 (x := .eptr 0 (wr (4 + (wr (v45.tdiv 8)))).toNat 0) rfl rfl rfl rfl (.idxOn rfl sl35 rfl rfl rfl h54) ?_
          refine RunT.on1 (x := .junk) (p0 := (0, some (.arr false 1 (List.map eU8 (v44.set (wr (4 + (wr (v45.tdiv 8)))).toNat (IntKind.u8.wrap (((BitVec.ofInt IntKind.u8.bits y50 ||| BitVec.ofInt IntKind.u8.bits (IntKind.u8.wrap (1 * 2 ^ (min (IntKind.u64.wrap (v45.tmod 8)).toNat IntKind.u8.bits)))).toNat : Nat) : Int))))))) (n' := 16) rfl rfl rfl (.storeEm (z' := IntKind.u8.wrap (((BitVec.ofInt IntKind.u8.bits y50 ||| BitVec.ofInt IntKind.u8.bits (IntKind.u8.wrap (1 * 2 ^ (min (IntKind.u64.wrap (v45.tmod 8)).toNat IntKind.u8.bits)))).toNat : Nat) : Int)) ty5 rfl rfl rfl rfl rfl (ixs h54).2.1 rfl (fun _ => rfl) rfl) rfl ?_
          refine RunT.nil ?_
          refine T.sub (sub_pick [3, 28, 29, 30] [0] (st' := ⟨[(3, .own 0 0 v44.length), (28, .lst (List.map eB a0)), (29, .v (.int .i64 (a0.length : Int))), (30, .v (.int .i64 v45))], [(0, some (.arr false 1 (List.map eU8 (v44.set (wr (4 + (wr (v45.tdiv 8)))).toNat (IntKind.u8.wrap (((BitVec.ofInt IntKind.u8.bits y50 ||| BitVec.ofInt IntKind.u8.bits (IntKind.u8.wrap (1 * 2 ^ (min (IntKind.u64.wrap (v45.tmod 8)).toNat IntKind.u8.bits)))).toNat : Nat) : Int))))))], 16, []⟩) rfl rfl rfl rfl rfl) ?_
          refine T.region ?_
          refine RunT.ot0 (x := .v (.int .i64 (wr (v45 + 1)))) rfl rfl rfl rfl (.bin rfl rfl (fun w => b_addw w) rfl) ?_
          refine RunT.ot0 (x := .v (.int .i64 (wr (v45 + 1)))) rfl rfl rfl rfl (.moveX rfl) ?_
          refine RunT.nil ?_
          exact ⟨n, Nat.lt_succ_self n, _, ⟨v44.set (wr (4 + (wr (v45.tdiv 8)))).toNat (IntKind.u8.wrap (((BitVec.ofInt IntKind.u8.bits y50 ||| BitVec.ofInt IntKind.u8.bits (IntKind.u8.wrap (1 * 2 ^ (min (IntKind.u64.wrap (v45.tmod 8)).toNat IntKind.u8.bits)))).toNat : Nat) : Int)), wr (v45 + 1), H, rfl⟩, (sub_to [some 0] (by decide) rfl rfl (⟨⟨_, rfl, .one (.own' rfl (List.length_set ..).symm)⟩, ⟨⟨_, rfl, .one .lst⟩, ⟨⟨_, rfl, .one .v⟩, ⟨⟨_, rfl, .one .v⟩, trivial⟩⟩⟩⟩) (⟨⟨rfl, .inl ⟨_, _, rfl, rfl, .arr rfl⟩⟩, trivial⟩))⟩
        · replace H := cf H c49
          refine T.skip ?_
          refine T.region ?_
          refine RunT.ot0 (x := .v (.int .i64 (wr (v45 + 1)))) rfl rfl rfl rfl (.bin rfl rfl (fun w => b_addw w) rfl) ?_
          refine RunT.ot0 (x := .v (.int .i64 (wr (v45 + 1)))) rfl rfl rfl rfl (.moveX rfl) ?_
          refine RunT.nil ?_
          exact ⟨n, Nat.lt_succ_self n, _, ⟨v44, wr (v45 + 1), H, rfl⟩, (sub_to [some 0] (by decide) rfl rfl (⟨⟨_, rfl, .one (.own rfl)⟩, ⟨⟨_, rfl, .one .lst⟩, ⟨⟨_, rfl, .one .v⟩, ⟨⟨_, rfl, .one .v⟩, trivial⟩⟩⟩⟩) (⟨⟨rfl, .inl ⟨_, _, rfl, rfl, .arr rfl⟩⟩, trivial⟩))⟩
      · replace H := cf H c46
        refine T.exit ?_
        obtain rfl := si H
        exact (sub_to [some 0] (by decide) rfl rfl (⟨⟨_, rfl, .one (.own rfl)⟩, trivial⟩) (⟨⟨rfl, .inl ⟨_, _, rfl, rfl, .arr rfl⟩⟩, trivial⟩))
    · intro s hS
      have H := HO43
      refine T.sub hS ?_
      refine T.seq ?_
      refine T.region ?_
      refine RunT.ot0 (x := .own 0 0 o41.length) rfl rfl rfl rfl (.moveX rfl) ?_
      refine RunT.ot0 (x := .own 0 0 o41.length) rfl rfl rfl rfl (.assignX rfl) ?_
      refine RunT.nil ?_
      obtain rfl := si H
      refine T.sub (sub_to (st' := ⟨[(2, .own 0 0 ((List.map eU8 o41).length))], [(0, some (.arr false 1 (List.map eU8 o41)))], 8, []⟩) [some 0] (by decide) rfl rfl (⟨⟨_, rfl, .one (.own' rfl (List.length_map _).symm)⟩, trivial⟩) (⟨⟨rfl, .inl ⟨_, _, rfl, rfl, .arr rfl⟩⟩, trivial⟩)) ?_
      refine T.ret ?_
      exact RetOk.same [.own 0 0 ((List.map eU8 o41).length)] ⟨rfl, trivial⟩ rfl rfl rfl
set_option maxHeartbeats 4000000 in
theorem bytes_Equal_pc (al : Bool) (k : Nat) (a0 : (List Int)) (a1 : (List Int)) (o : Bool) (H : bytes_Equal k a0 a1 = some o) : PC Try.prog al 43 [.lst (List.map eU8 a0), .lst (List.map eU8 a1)] (.v (.bool o)) := by
  unfold bytes_Equal at H
  refine PC.of_T Try.func43 rfl rfl (n := 10) rfl rfl (.inr rfl) ?_
  intro base B w0
  refine T.st (st' := ⟨[(0, .lst (List.map eU8 a0)), (1, .lst (List.map eU8 a1))], [], 0, []⟩) rfl ?_
  refine T.seq ?_
  refine T.region ?_
  refine RunT.ot0 (x := .v (.bool false)) rfl rfl rfl rfl (.assignX rfl) ?_
  refine RunT.nil ?_
  refine T.seq ?_
  refine T.region ?_
  refine RunT.ot0 (x := .lst (List.map eU8 a0)) rfl rfl rfl rfl (.moveX rfl) ?_
  refine RunT.ot0 (x := .v (.string (strOf a0))) rfl rfl rfl rfl (.toStrm (d := false) (m := a0) (f := eU8) Try.underlying35 Try.underlying5 Try.underlying9 rfl (.lstm Try.underlying35 enc_U8) (fun _ => rfl)) ?_
  refine RunT.ot0 (x := .lst (List.map eU8 a1)) rfl rfl rfl rfl (.moveX rfl) ?_
  refine RunT.ot0 (x := .v (.string (strOf a1))) rfl rfl rfl rfl (.toStrm (d := false) (m := a1) (f := eU8) Try.underlying35 Try.underlying5 Try.underlying9 rfl (.lstm Try.underlying35 enc_U8) (fun _ => rfl)) ?_
  refine RunT.ot0 (x := .v (.bool ((strOf a0) == (strOf a1)))) rfl rfl rfl rfl (.bin rfl rfl (fun w => eqStr w) rfl) ?_
  refine RunT.ot0 (x := .v (.bool ((strOf a0) == (strOf a1)))) rfl rfl rfl rfl (.assignX rfl) ?_
  refine RunT.nil ?_
  obtain rfl := si H
  refine T.sub (sub_to (st' := ⟨[(4, .v (.bool ((strOf a0) == (strOf a1))))], [], 8, []⟩) [] (by decide) rfl rfl (⟨⟨_, rfl, .one .v⟩, trivial⟩) (trivial)) ?_
  refine T.ret ?_
  exact RetOk.same [.v (.bool ((strOf a0) == (strOf a1)))] ⟨rfl, trivial⟩ rfl rfl rfl
set_option maxHeartbeats 4000000 in
theorem tree_From_pc (al : Bool) (k : Nat) (a0 : (List Int)) (o : (List Bool) × Int) (H : tree_From k a0 = some o) : PC Try.prog al 25 [.lst (List.map eU8 a0)] (.tup [.frs 1 (List.map eB o.1), .v (.int .i64 o.2)]) := by
  unfold tree_From at H
  refine PC.of_T Try.func25 rfl rfl (n := 71) rfl rfl (.inr (flatT_tup ⟨(flat1_frs (sz := 1) fl_B), rfl, trivial⟩)) ?_
  intro base B w0
  refine T.st (st' := ⟨[(0, .lst (List.map eU8 a0))], [], 0, []⟩) rfl ?_
  refine T.seq ?_
  refine T.region ?_
  refine RunT.ot0 (x := .v (.slice none 0 0)) rfl rfl rfl rfl (.assignX rfl) ?_
  refine RunT.ot0 (x := .v (.int .i64 0)) rfl rfl rfl rfl (.assignX rfl) ?_
  refine RunT.nil ?_
  refine T.seq ?_
  refine T.region ?_
  refine RunT.ot0 (x := .v (.int .i64 0)) rfl rfl rfl rfl (.assignX rfl) ?_
  refine RunT.nil ?_
  refine T.seq ?_
  refine T.seq ?_
  refine T.region ?_
  refine RunT.ot0 (x := .lst (List.map eU8 a0)) rfl rfl rfl rfl (.moveX rfl) ?_
  refine RunT.ot0 (x := .v (.int .i64 (a0.length : Int))) rfl rfl rfl rfl (.lenLm Try.underlying35 rfl rfl) ?_
  refine RunT.ot0 (x := .v (.int .i64 (if (a0.length : Int) < 4 then (a0.length : Int) else 4))) rfl rfl rfl rfl (.min rfl rfl) ?_
  refine RunT.ot0 (x := .v (.int .i64 0)) rfl rfl rfl rfl (.moveX rfl) ?_
  refine RunT.nil ?_
  obtain ⟨o11, E12, HO13⟩ := bs H
  refine T.cutE (⟨[(0, .lst (List.map eU8 a0)), (4, .v (.int .i64 o11))], [], 8, []⟩) ?_ ?_
  · have H := E12
    refine T.block ?_
    refine T.loopS (fun n s => ∃ (v14 : Int) (v15 : Int), tree_From_l0 k a0 n v14 v15 = some o11 ∧ s = ⟨[(0, .lst (List.map eU8 a0)), (4, .v (.int .i64 v14)), (10, .v (.int .i64 (if (a0.length : Int) < 4 then (a0.length : Int) else 4))), (11, .v (.int .i64 v15))], [], 8, []⟩) k ⟨_, ⟨0, 0, H, rfl⟩, sub_to [] (by decide) rfl rfl (⟨⟨_, rfl, .one .lst⟩, ⟨⟨_, rfl, .one .v⟩, ⟨⟨_, rfl, .one .v⟩, ⟨⟨_, rfl, .one .v⟩, trivial⟩⟩⟩⟩) (trivial)⟩ ?_
    rintro n s ⟨v14, v15, H, rfl⟩
    rcases n with _ | n
    · cases (show none = some _ from H)
    rw [tree_From_l0] at H
    refine T.seq ?_
    refine T.region ?_
    refine RunT.ot0 (x := .v (.bool (decide (v15 < (if (a0.length : Int) < 4 then (a0.length : Int) else 4))))) rfl rfl rfl rfl (.bin rfl rfl (fun w => b_lss w) rfl) ?_
    refine RunT.nil ?_
    refine T.seq ?_
    refine T.cond2 (t := decide (v15 < (if (a0.length : Int) < 4 then (a0.length : Int) else 4))) rfl (fun c16 => ?_) (fun c16 => ?_)
    · replace H := ct H c16
      refine T.skip ?_
      refine T.seq ?_
      refine T.block ?_
      refine T.seq ?_
      refine T.region ?_
      refine RunT.ot0 (x := .v (.int .i64 v15)) rfl rfl rfl rfl (.moveX rfl) ?_
      refine RunT.ot0 (x := .v (.int .i64 v15)) rfl rfl rfl rfl (.assignX rfl) ?_
      refine RunT.nil ?_
      refine T.region ?_
      refine RunT.ot0 (x := .v (.int .i64 v14)) rfl rfl rfl rfl (.moveX rfl) ?_
      refine RunT.ot0 (x := .lst (List.map eU8 a0)) rfl rfl rfl rfl (.moveX rfl) ?_
      refine RunT.ot0 (x := .v (.int .i64 v15)) rfl rfl rfl rfl (.moveX rfl) ?_
      obtain ⟨y17, h18, H⟩ := bs H
      refine RunT.ot0 (x := .rptr [.v (.int .u8 y17)]) rfl rfl rfl rfl (.idxLX h18 enc_U8 sl35 rfl rfl rfl) ?_
      refine RunT.ot0 (x := .v (.int .u8 y17)) rfl rfl rfl rfl (.loadR ty5 rfl rfl) ?_
      refine RunT.ot0 (x := .v (.int .i64 (wr y17))) rfl rfl rfl rfl (.conv rfl (fun w => c_intw w ⟨_, Try.underlying5⟩ Try.underlying3) rfl) ?_
      refine RunT.ot0 (x := .v (.int .i64 v15)) rfl rfl rfl rfl (.moveX rfl) ?_
      refine RunT.ot0 (x := .v (.int .i64 (wr (8 * v15)))) rfl rfl rfl rfl (.bin rfl rfl (fun w => b_mulw w) rfl) ?_
      refine RunT.ot0 (x := .v (.int .u64 (IntKind.u64.wrap (wr (8 * v15))))) rfl rfl rfl rfl (.conv rfl (fun w => c_int w ⟨_, Try.underlying3⟩ Try.underlying31) rfl) ?_
      obtain ⟨h19, H⟩ := gs H
      refine RunT.ot0 (x := .v (.int .i64 (IntKind.i64.wrap ((wr y17) * 2 ^ (min (IntKind.u64.wrap (wr (8 * v15))).toNat IntKind.i64.bits))))) rfl rfl rfl rfl (.bin rfl rfl (fun w => b_shl w (of_decide_eq_true h19)) rfl) ?_
      refine RunT.ot0 (x := .v (.int .i64 (IntKind.i64.wrap (((BitVec.ofInt IntKind.i64.bits v14 ||| BitVec.ofInt IntKind.i64.bits (IntKind.i64.wrap ((wr y17) * 2 ^ (min (IntKind.u64.wrap (wr (8 * v15))).toNat IntKind.i64.bits)))).toNat : Nat) : Int)))) rfl rfl rfl rfl (.bin rfl rfl (fun w => b_or' w rfl) rfl) ?_
      refine RunT.ot0 (x := .v (.int .i64 (IntKind.i64.wrap (((BitVec.ofInt IntKind.i64.bits v14 ||| BitVec.ofInt IntKind.i64.bits (IntKind.i64.wrap ((wr y17) * 2 ^ (min (IntKind.u64.wrap (wr (8 * v15))).toNat IntKind.i64.bits)))).toNat : Nat) : Int)))) rfl rfl rfl rfl (.assignX rfl) ?_
      refine RunT.nil ?_
      refine T.sub (sub_pick [0, 4, 10, 11] [] (st' := ⟨[(0, .lst (List.map eU8 a0)), (4, .v (.int .i64 (IntKind.i64.wrap (((BitVec.ofInt IntKind.i64.bits v14 ||| BitVec.ofInt IntKind.i64.bits (IntKind.i64.wrap ((wr y17) * 2 ^ (min (IntKind.u64.wrap (wr (8 * v15))).toNat IntKind.i64.bits)))).toNat : Nat) : Int)))), (10, .v (.int .i64 (if (a0.length : Int) < 4 then (a0.length : Int) else 4))), (11, .v (.int .i64 v15))], [], 8, []⟩) rfl rfl rfl rfl rfl) ?_
      refine T.region ?_
      refine RunT.ot0 (x := .v (.int .i64 (wr (v15 + 1)))) rfl rfl rfl rfl (.bin rfl rfl (fun w => b_addw w) rfl) ?_
      refine RunT.ot0 (x := .v (.int .i64 (wr (v15 + 1)))) rfl rfl rfl rfl (.moveX rfl) ?_
      refine RunT.nil ?_
      exact ⟨n, Nat.lt_succ_self n, _, ⟨IntKind.i64.wrap (((BitVec.ofInt IntKind.i64.bits v14 ||| BitVec.ofInt IntKind.i64.bits (IntKind.i64.wrap ((wr y17) * 2 ^ (min (IntKind.u64.wrap (wr (8 * v15))).toNat IntKind.i64.bits)))).toNat : Nat) : Int), wr (v15 + 1), H, rfl⟩, (sub_to [] (by decide) rfl rfl (⟨⟨_, rfl, .one .lst⟩, ⟨⟨_, rfl, .one .v⟩, ⟨⟨_, rfl, .one .v⟩, ⟨⟨_, rfl, .one .v⟩, trivial⟩⟩⟩⟩) (trivial))⟩
    · replace H := cf H c16
      refine T.exit ?_
      obtain rfl := si H
      exact (sub_to [] (by decide) rfl rfl (⟨⟨_, rfl, .one .lst⟩, ⟨⟨_, rfl, .one .v⟩, trivial⟩⟩) (trivial))
  · intro s hS
    have H := HO13
    refine T.sub hS ?_
    obtain ⟨o23, E24, HO25⟩ := bs H
    refine T.cutP (fun v26 => o23 = .go v26) (fun v26 => ⟨[(0, .lst (List.map eU8 a0)), (4, .v (.int .i64 o11))], [], 8, []⟩) ?_ ?_
    · have H := E24
      refine T.block ?_
      refine T.seq ?_
      refine T.block ?_
      refine T.block ?_
      refine T.block ?_
      refine T.seq ?_
      refine T.seq ?_
      refine T.seq ?_
      refine T.region ?_
      refine RunT.ot0 (x := .lst (List.map eU8 a0)) rfl rfl rfl rfl (.moveX rfl) ?_
      refine RunT.ot0 (x := .v (.int .i64 (a0.length : Int))) rfl rfl rfl rfl (.lenLm Try.underlying35 rfl rfl) ?_
      refine RunT.ot0 (x := .v (.bool (decide ((a0.length : Int) < 4)))) rfl rfl rfl rfl (.bin rfl rfl (fun w => b_lss w) rfl) ?_
      refine RunT.ot0 (x := .v (.bool (decide ((a0.length : Int) < 4)))) rfl rfl rfl rfl (.assignX rfl) ?_
      refine RunT.nil ?_
      refine T.cond2 (t := decide ((a0.length : Int) < 4)) rfl (fun c27 => ?_) (fun c27 => ?_)
      · replace H := ct H c27
        refine T.exit ?_
        refine T.seq ?_
        refine T.seq ?_
        refine T.region ?_
        refine RunT.ot0 (x := .v (.slice none 0 0)) rfl rfl rfl rfl (.assignX rfl) ?_
        refine RunT.ot0 (x := .v (.int .i64 10)) rfl rfl rfl rfl (.assignX rfl) ?_
        refine RunT.nil ?_
        obtain rfl := si H
        have HX := exr HO25
        obtain rfl := si HX
        refine T.sub (sub_to (st' := ⟨[(2, .own 0 0 0), (3, .v (.int .i64 10))], [(0, some (.arr false 1 (List.map eB [])))], 8, []⟩) [none] (by decide) rfl rfl (⟨⟨_, rfl, .one .nilO⟩, ⟨⟨_, rfl, .one .v⟩, trivial⟩⟩) (⟨⟨rfl, .inr ⟨rfl, false, _, rfl, (by decide)⟩⟩, trivial⟩)) ?_
        refine T.ret ?_
        exact RetOk.same [.own 0 0 0, .v (.int .i64 10)] ⟨rfl, rfl, trivial⟩ rfl rfl rfl
      · replace H := cf H c27
        refine T.skip ?_
        refine T.seq ?_
        refine T.seq ?_
        refine T.region ?_
        refine RunT.ot0 (x := .v (.int .i64 o11)) rfl rfl rfl rfl (.moveX rfl) ?_
        refine RunT.ot0 (x := .v (.bool (decide (1048576 < o11)))) rfl rfl rfl rfl (.bin rfl rfl (fun w => b_gtr w) rfl) ?_
        refine RunT.ot0 (x := .v (.bool (decide (1048576 < o11)))) rfl rfl rfl rfl (.assignX rfl) ?_
        refine RunT.nil ?_
        refine T.cond2 (t := decide (1048576 < o11)) rfl (fun c28 => ?_) (fun c28 => ?_)
        · replace H := ct H c28
          refine T.exit ?_
          refine T.seq ?_
          refine T.seq ?_
          refine T.region ?_
          refine RunT.ot0 (x := .v (.slice none 0 0)) rfl rfl rfl rfl (.assignX rfl) ?_
          refine RunT.ot0 (x := .v (.int .i64 10)) rfl rfl rfl rfl (.assignX rfl) ?_
          refine RunT.nil ?_
          obtain rfl := si H
          have HX := exr HO25
          obtain rfl := si HX
          refine T.sub (sub_to (st' := ⟨[(2, .own 0 0 0), (3, .v (.int .i64 10))], [(0, some (.arr false 1 (List.map eB [])))], 8, []⟩) [none] (by decide) rfl rfl (⟨⟨_, rfl, .one .nilO⟩, ⟨⟨_, rfl, .one .v⟩, trivial⟩⟩) (⟨⟨rfl, .inr ⟨rfl, false, _, rfl, (by decide)⟩⟩, trivial⟩)) ?_
          refine T.ret ?_
          exact RetOk.same [.own 0 0 0, .v (.int .i64 10)] ⟨rfl, rfl, trivial⟩ rfl rfl rfl
        · replace H := cf H c28
          refine T.skip ?_
          refine T.seq ?_
          refine T.region ?_
          refine RunT.ot0 (x := .lst (List.map eU8 a0)) rfl rfl rfl rfl (.moveX rfl) ?_
          refine RunT.ot0 (x := .v (.int .i64 (a0.length : Int))) rfl rfl rfl rfl (.lenLm Try.underlying35 rfl rfl) ?_
          refine RunT.ot0 (x := .v (.int .i64 o11)) rfl rfl rfl rfl (.moveX rfl) ?_
          refine RunT.ot0 (x := .v (.int .i64 (wr (o11 + 8)))) rfl rfl rfl rfl (.bin rfl rfl (fun w => b_addw w) rfl) ?_
          refine RunT.ot0 (x := .v (.int .i64 (wr ((wr (o11 + 8)) - 1)))) rfl rfl rfl rfl (.bin rfl rfl (fun w => b_subw w) rfl) ?_
          refine RunT.ot0 (x := .v (.int .i64 (wr ((wr ((wr (o11 + 8)) - 1)).tdiv 8)))) rfl rfl rfl rfl (.bin rfl rfl (fun w => b_quow w (by decide)) rfl) ?_
          refine RunT.ot0 (x := .v (.int .i64 (wr (4 + (wr ((wr ((wr (o11 + 8)) - 1)).tdiv 8)))))) rfl rfl rfl rfl (.bin rfl rfl (fun w => b_addw w) rfl) ?_
          refine RunT.ot0 (x := .v (.bool (!decide ((a0.length : Int) = (wr (4 + (wr ((wr ((wr (o11 + 8)) - 1)).tdiv 8)))))))) rfl rfl rfl rfl (.bin rfl rfl (fun w => b_neq w) rfl) ?_
          refine RunT.ot0 (x := .v (.bool (!decide ((a0.length : Int) = (wr (4 + (wr ((wr ((wr (o11 + 8)) - 1)).tdiv 8)))))))) rfl rfl rfl rfl (.assignX rfl) ?_
          refine RunT.nil ?_
          refine T.cond2 (t := !decide ((a0.length : Int) = (wr (4 + (wr ((wr ((wr (o11 + 8)) - 1)).tdiv 8)))))) rfl (fun c29 => ?_) (fun c29 => ?_)
          · replace H := ct H c29
            refine T.exit ?_
            refine T.seq ?_
            refine T.seq ?_
            refine T.sub (sub_pick [] [] (st' := ⟨[], [], 8, []⟩) rfl rfl rfl rfl rfl) ?_
            refine T.region ?_
            refine RunT.ot0 (x := .v (.slice none 0 0)) rfl rfl rfl rfl (.assignX rfl) ?_
            refine RunT.ot0 (x := .v (.int .i64 10)) rfl rfl rfl rfl (.assignX rfl) ?_
            refine RunT.nil ?_
            obtain rfl := si H
            have HX := exr HO25
            obtain rfl := si HX
            refine T.sub (sub_to (st' := ⟨[(2, .own 0 0 0), (3, .v (.int .i64 10))], [(0, some (.arr false 1 (List.map eB [])))], 8, []⟩) [none] (by decide) rfl rfl (⟨⟨_, rfl, .one .nilO⟩, ⟨⟨_, rfl, .one .v⟩, trivial⟩⟩) (⟨⟨rfl, .inr ⟨rfl, false, _, rfl, (by decide)⟩⟩, trivial⟩)) ?_
            refine T.ret ?_
            exact RetOk.same [.own 0 0 0, .v (.int .i64 10)] ⟨rfl, rfl, trivial⟩ rfl rfl rfl
          · replace H := cf H c29
            refine T.skip ?_
            refine T.exit ?_
            obtain rfl := si H
            exact ⟨_, rfl, (sub_to [] (by decide) rfl rfl (⟨⟨_, rfl, .one .lst⟩, ⟨⟨_, rfl, .one .v⟩, trivial⟩⟩) (trivial))⟩
    · intro v26 hR 
      subst hR
      have H := exg HO25
      refine T.seq ?_
      refine T.region ?_
      refine RunT.ot0 (x := .v (.int .i64 o11)) rfl rfl rfl rfl (.moveX rfl) ?_
      obtain ⟨h30, H⟩ := gs H
      refine RunT.ot1 (x := .own 8 0 ((List.replicate o11.toNat false).length)) (p0 := (8, some (.arr false 1 (List.map eB (List.replicate o11.toNat false))))) (n' := 16) rfl rfl rfl rfl (.mkslicem (d := false) (z' := false) (f := eB) sl34 rfl rfl in4.zero rfl enc_B h30) rfl ?_
      refine RunT.ot0 (x := .own 8 0 ((List.replicate o11.toNat false).length)) rfl rfl rfl rfl (.assignX rfl) ?_
      refine RunT.nil ?_
      refine T.seq ?_
      refine T.seq ?_
      refine T.region ?_
      refine RunT.ot0 (x := .own 8 0 ((List.replicate o11.toNat false).length)) rfl rfl rfl rfl (.moveX rfl) ?_
      refine RunT.ot0 (x := .v (.int .i64 ((List.replicate o11.toNat false).length : Int))) rfl rfl rfl rfl (.lenON rfl Try.underlying34 rfl rfl) ?_
      refine RunT.ot0 (x := .v (.int .i64 0)) rfl rfl rfl rfl (.moveX rfl) ?_
      refine RunT.nil ?_
      obtain ⟨o45, E46, HO47⟩ := bs H
      refine T.cutE (⟨[(0, .lst (List.map eU8 a0)), (6, .own 0 0 o45.length)], [(0, some (.arr false 1 (List.map eB o45)))], 8, []⟩) ?_ ?_
      · have H := E46
        refine T.block ?_
        refine T.loopS (fun n s => ∃ (v48 : (List Bool)) (v49 : Int), tree_From_l1 k a0 o11 n v48 v49 = some o45 ∧ s = ⟨[(0, .lst (List.map eU8 a0)), (6, .own 0 0 v48.length), (45, .v (.int .i64 ((List.replicate o11.toNat false).length : Int))), (46, .v (.int .i64 v49))], [(0, some (.arr false 1 (List.map eB v48)))], 8, []⟩) k ⟨_, ⟨List.replicate o11.toNat false, 0, H, rfl⟩, sub_to [some 8] (by decide) rfl rfl (⟨⟨_, rfl, .one .lst⟩, ⟨⟨_, rfl, .one (.own rfl)⟩, ⟨⟨_, rfl, .one .v⟩, ⟨⟨_, rfl, .one .v⟩, trivial⟩⟩⟩⟩) (⟨⟨rfl, .inl ⟨_, _, rfl, rfl, .arr rfl⟩⟩, trivial⟩)⟩ ?_
        rintro n s ⟨v48, v49, H, rfl⟩
        rcases n with _ | n
        · cases (show none = some _ from H)
        rw [tree_From_l1] at H
        refine T.seq ?_
        refine T.region ?_
        refine RunT.ot0 (x := .v (.bool (decide (v49 < ((List.replicate o11.toNat false).length : Int))))) rfl rfl rfl rfl (.bin rfl rfl (fun w => b_lss w) rfl) ?_
        refine RunT.nil ?_
        refine T.seq ?_
        refine T.cond2 (t := decide (v49 < ((List.replicate o11.toNat false).length : Int))) rfl (fun c50 => ?_) (fun c50 => ?_)
        · replace H := ct H c50
          refine T.skip ?_
          refine T.seq ?_
          refine T.block ?_
          refine T.seq ?_
          refine T.region ?_
          refine RunT.ot0 (x := .v (.int .i64 v49)) rfl rfl rfl rfl (.moveX rfl) ?_
          refine RunT.ot0 (x := .v (.int .i64 v49)) rfl rfl rfl rfl (.assignX rfl) ?_
          refine RunT.nil ?_
          refine T.region ?_
          refine RunT.ot0 (x := .own 0 0 v48.length) rfl rfl rfl rfl (.moveX rfl) ?_
          refine RunT.ot0 (x := .v (.int .i64 v49)) rfl rfl rfl rfl (.moveX rfl) ?_
          refine RunT.ot0 (x := .lst (List.map eU8 a0)) rfl rfl rfl rfl (.moveX rfl) ?_
          refine RunT.ot0 (x := .v (.int .i64 v49)) rfl rfl rfl rfl (.moveX rfl) ?_
          refine RunT.ot0 (x := .v (.int .i64 (wr (v49.tdiv 8)))) rfl rfl rfl rfl (.bin rfl rfl (fun w => b_quow w (by decide)) rfl) ?_
          refine RunT.ot0 (x := .v (.int .i64 (wr (4 + (wr (v49.tdiv 8)))))) rfl rfl rfl rfl (.bin rfl rfl (fun w => b_addw w) rfl) ?_
          obtain ⟨y51, h52, H⟩ := bs H
          refine RunT.ot0 (x := .rptr [.v (.int .u8 y51)]) rfl rfl rfl rfl (.idxLX h52 enc_U8 sl35 rfl rfl rfl) ?_
          refine RunT.ot0 (x := .v (.int .u8 y51)) rfl rfl rfl rfl (.loadR ty5 rfl rfl) ?_
          refine RunT.ot0 (x := .v (.int .i64 v49)) rfl rfl rfl rfl (.moveX rfl) ?_
          refine RunT.ot0 (x := .v (.int .i64 (v49.tmod 8))) rfl rfl rfl rfl (.bin rfl rfl (fun w => b_rem w (by decide)) rfl) ?_
          refine RunT.ot0 (x := .v (.int .u64 (IntKind.u64.wrap (v49.tmod 8)))) rfl rfl rfl rfl (.conv rfl (fun w => c_int w ⟨_, Try.underlying3⟩ Try.underlying31) rfl) ?_
          obtain ⟨h53, H⟩ := gs H
          refine RunT.ot0 (x := .v (.int .u8 (y51.fdiv (2 ^ (min (IntKind.u64.wrap (v49.tmod 8)).toNat IntKind.u8.bits))))) rfl rfl rfl rfl (.bin rfl rfl (fun w => b_shr w (of_decide_eq_true h53)) rfl) ?_
          refine RunT.ot0 (x := .v (.int .u8 (IntKind.u8.wrap (((BitVec.ofInt IntKind.u8.bits (y51.fdiv (2 ^ (min (IntKind.u64.wrap (v49.tmod 8)).toNat IntKind.u8.bits))) &&& BitVec.ofInt IntKind.u8.bits 1).toNat : Nat) : Int)))) rfl rfl rfl rfl (.bin rfl rfl (fun w => b_and' w rfl) rfl) ?_
          refine RunT.ot0 (x := .v (.bool (decide ((IntKind.u8.wrap (((BitVec.ofInt IntKind.u8.bits (y51.fdiv (2 ^ (min (IntKind.u64.wrap (v49.tmod 8)).toNat IntKind.u8.bits))) &&& BitVec.ofInt IntKind.u8.bits 1).toNat : Nat) : Int)) = 1)))) rfl rfl rfl rfl (.bin rfl rfl (fun w => b_eql w) rfl) ?_
          obtain ⟨y54, h55, H⟩ := bs H
          refine RunT.ot0 (x := .eptr 0 v49.toNat 0) rfl rfl rfl rfl (.idxOn rfl sl34 rfl rfl rfl h55) ?_
          refine RunT.on1 (x := .junk) (p0 := (0, some (.arr false 1 (List.map eB (v48.set v49.toNat (decide ((IntKind.u8.wrap (((BitVec.ofInt IntKind.u8.bits (y51.fdiv (2 ^ (min (IntKind.u64.wrap (v49.tmod 8)).toNat IntKind.u8.bits))) &&& BitVec.ofInt IntKind.u8.bits 1).toNat : Nat) : Int)) = 1))))))) (n' := 16) rfl rfl rfl (.storeEm (z' := decide ((IntKind.u8.wrap (((BitVec.ofInt IntKind.u8.bits (y51.fdiv (2 ^ (min (IntKind.u64.wrap (v49.tmod 8)).toNat IntKind.u8.bits))) &&& BitVec.ofInt IntKind.u8.bits 1).toNat : Nat) : Int)) = 1)) ty4 rfl rfl rfl rfl rfl (ixs h55).2.1 rfl (fun _ => rfl) rfl) rfl ?_
          refine RunT.nil ?_
          refine T.sub (sub_pick [0, 6, 45, 46] [0] (st' := ⟨[(0, .lst (List.map eU8 a0)), (6, .own 0 0 v48.length), (45, .v (.int .i64 ((List.replicate o11.toNat false).length : Int))), (46, .v (.int .i64 v49))], [(0, some (.arr false 1 (List.map eB (v48.set v49.toNat (decide ((IntKind.u8.wrap (((BitVec.ofInt IntKind.u8.bits (y51.fdiv (2 ^ (min (IntKind.u64.wrap (v49.tmod 8)).toNat IntKind.u8.bits))) &&& BitVec.ofInt IntKind.u8.bits 1).toNat : Nat) : Int)) = 1))))))], 16, []⟩) rfl rfl rfl rfl rfl) ?_
          refine T.region ?_
          refine RunT.ot0 (x := .v (.int .i64 (wr (v49 + 1)))) rfl rfl rfl rfl (.bin rfl rfl (fun w => b_addw w) rfl) ?_
          refine RunT.ot0 (x := .v (.int .i64 (wr (v49 + 1)))) rfl rfl rfl rfl (.moveX rfl) ?_
          refine RunT.nil ?_
          exact ⟨n, Nat.lt_succ_self n, _, ⟨v48.set v49.toNat (decide ((IntKind.u8.wrap (((BitVec.ofInt IntKind.u8.bits (y51.fdiv (2 ^ (min (IntKind.u64.wrap (v49.tmod 8)).toNat IntKind.u8.bits))) &&& BitVec.ofInt IntKind.u8.bits 1).toNat : Nat) : Int)) = 1)), wr (v49 + 1), H, rfl⟩, (sub_to [some 0] (by decide) rfl rfl (⟨⟨_, rfl, .one .lst⟩, ⟨⟨_, rfl, .one (.own' rfl (List.length_set ..).symm)⟩, ⟨⟨_, rfl, .one .v⟩, ⟨⟨_, rfl, .one .v⟩, trivial⟩⟩⟩⟩) (⟨⟨rfl, .inl ⟨_, _, rfl, rfl, .arr rfl⟩⟩, trivial⟩))⟩
        · replace H := cf H c50
          refine T.exit ?_
          obtain rfl := si H
          exact (sub_to [some 0] (by decide) rfl rfl (⟨⟨_, rfl, .one .lst⟩, ⟨⟨_, rfl, .one (.own rfl)⟩, trivial⟩⟩) (⟨⟨rfl, .inl ⟨_, _, rfl, rfl, .arr rfl⟩⟩, trivial⟩))
      · intro s hS
        have H := HO47
        refine T.sub hS ?_
        refine T.seq ?_
        refine T.seq ?_
        refine T.region ?_
        refine RunT.ot0 (x := .own 0 0 o45.length) rfl rfl rfl rfl (.moveX rfl) ?_
        obtain ⟨r56, h57, H⟩ := bs H
        refine RunT.ot0 (x := .lst (List.map eU8 r56)) rfl rfl rfl rfl (.callp (PC.frozen (tree_Bytes_pc false k o45 r56 h57)) rfl ⟨(.one (.all rfl (List.length_map _).symm)), trivial⟩ rfl rfl rfl) ?_
        refine RunT.ot0 (x := .lst (List.map eU8 a0)) rfl rfl rfl rfl (.moveX rfl) ?_
        obtain ⟨r58, h59, H⟩ := bs H
        refine RunT.ot0 (x := .v (.bool r58)) rfl rfl rfl rfl (.callp (bytes_Equal_pc false k r56 a0 r58 h59) rfl ⟨(.one .lst), (.one .lst), trivial⟩ rfl rfl rfl) ?_
        refine RunT.ot0 (x := .v (.bool (!r58))) rfl rfl rfl rfl (.un rfl (fun w => u_not w) rfl) ?_
        refine RunT.nil ?_
        refine T.cond2 (t := !r58) rfl (fun c60 => ?_) (fun c60 => ?_)
        · replace H := ct H c60
          refine T.seq ?_
          refine T.region ?_
          refine RunT.ot0 (x := .v (.slice none 0 0)) rfl rfl rfl rfl (.assignX rfl) ?_
          refine RunT.ot0 (x := .v (.int .i64 10)) rfl rfl rfl rfl (.assignX rfl) ?_
          refine RunT.nil ?_
          obtain rfl := si H
          refine T.sub (sub_to (st' := ⟨[(2, .own 0 0 0), (3, .v (.int .i64 10))], [(0, some (.arr false 1 (List.map eB [])))], 8, []⟩) [none] (by decide) rfl rfl (⟨⟨_, rfl, .one .nilO⟩, ⟨⟨_, rfl, .one .v⟩, trivial⟩⟩) (⟨⟨rfl, .inr ⟨rfl, false, _, rfl, (by decide)⟩⟩, trivial⟩)) ?_
          refine T.ret ?_
          exact RetOk.same [.own 0 0 0, .v (.int .i64 10)] ⟨rfl, rfl, trivial⟩ rfl rfl rfl
        · replace H := cf H c60
          refine T.skip ?_
          refine T.seq ?_
          refine T.region ?_
          refine RunT.ot0 (x := .own 0 0 o45.length) rfl rfl rfl rfl (.moveX rfl) ?_
          refine RunT.ot0 (x := .own 0 0 o45.length) rfl rfl rfl rfl (.assignX rfl) ?_
          refine RunT.ot0 (x := .v (.int .i64 0)) rfl rfl rfl rfl (.assignX rfl) ?_
          refine RunT.nil ?_
          obtain rfl := si H
          refine T.sub (sub_to (st' := ⟨[(2, .own 0 0 ((List.map eB o45).length)), (3, .v (.int .i64 0))], [(0, some (.arr false 1 (List.map eB o45)))], 8, []⟩) [some 0] (by decide) rfl rfl (⟨⟨_, rfl, .one (.own' rfl (List.length_map _).symm)⟩, ⟨⟨_, rfl, .one .v⟩, trivial⟩⟩) (⟨⟨rfl, .inl ⟨_, _, rfl, rfl, .arr rfl⟩⟩, trivial⟩)) ?_
          refine T.ret ?_
          exact RetOk.same [.own 0 0 ((List.map eB o45).length), .v (.int .i64 0)] ⟨rfl, rfl, trivial⟩ rfl rfl rfl
set_option maxHeartbeats 4000000 in
theorem tree_Cuts_pc (al : Bool) (k : Nat) (a0 : (List Bool)) (o : Int) (H : tree_Cuts k a0 = some o) : PC Try.prog al 29 [.lst (List.map eB a0)] (.v (.int .i64 o)) := by
  unfold tree_Cuts at H
  refine PC.of_T Try.func29 rfl rfl (n := 11) rfl rfl (.inr rfl) ?_
  intro base B w0
  refine T.st (st' := ⟨[(0, .lst (List.map eB a0))], [], 0, []⟩) rfl ?_
  refine T.seq ?_
  refine T.region ?_
  refine RunT.ot0 (x := .v (.int .i64 0)) rfl rfl rfl rfl (.assignX rfl) ?_
  refine RunT.nil ?_
  refine T.seq ?_
  refine T.region ?_
  refine RunT.ot0 (x := .lst (List.map eB a0)) rfl rfl rfl rfl (.moveX rfl) ?_
  obtain ⟨r1, h2, H⟩ := bs H
  refine RunT.ot0 (x := .tup [.v (.int .i64 r1.1), .v (.int .i64 r1.2)]) rfl rfl rfl rfl (.callp (tree_Size_pc false k a0 r1 h2) rfl ⟨(.one .lst), trivial⟩ rfl rfl rfl) ?_
  refine RunT.ot0 (x := .tup [.v (.int .i64 r1.1), .v (.int .i64 r1.2)]) rfl rfl rfl rfl (.moveX rfl) ?_
  refine RunT.ot0 (x := .v (.int .i64 r1.1)) rfl rfl rfl rfl (.extract rfl rfl) ?_
  refine RunT.ot0 (x := .v (.int .i64 r1.2)) rfl rfl rfl rfl (.extract rfl rfl) ?_
  refine RunT.ot0 (x := .v (.int .i64 r1.1)) rfl rfl rfl rfl (.assignX rfl) ?_
  refine RunT.ot0 (x := .v (.int .i64 r1.2)) rfl rfl rfl rfl (.assignX rfl) ?_
  refine RunT.nil ?_
  refine T.seq ?_
  refine T.region ?_
  refine RunT.ot0 (x := .v (.int .i64 r1.2)) rfl rfl rfl rfl (.moveX rfl) ?_
  refine RunT.ot0 (x := .v (.int .i64 r1.2)) rfl rfl rfl rfl (.assignX rfl) ?_
  refine RunT.nil ?_
  obtain rfl := si H
  refine T.sub (sub_to (st' := ⟨[(2, .v (.int .i64 r1.2))], [], 8, []⟩) [] (by decide) rfl rfl (⟨⟨_, rfl, .one .v⟩, trivial⟩) (trivial)) ?_
  refine T.ret ?_
  exact RetOk.same [.v (.int .i64 r1.2)] ⟨rfl, trivial⟩ rfl rfl rfl
set_option maxHeartbeats 4000000 in
theorem slices_Equal_bool_pc (al : Bool) (k : Nat) (a0 : (List Bool)) (a1 : (List Bool)) (o : Bool) (H : slices_Equal_bool k a0 a1 = some o) : PC Try.prog al 44 [.lst (List.map eB a0), .lst (List.map eB a1)] (.v (.bool o)) := by
  unfold slices_Equal_bool at H
  refine PC.of_T Try.func44 rfl rfl (n := 26) rfl rfl (.inr rfl) ?_
  intro base B w0
  refine T.st (st' := ⟨[(0, .lst (List.map eB a0)), (1, .lst (List.map eB a1))], [], 0, []⟩) rfl ?_
  refine T.seq ?_
  refine T.region ?_
  refine RunT.ot0 (x := .v (.bool false)) rfl rfl rfl rfl (.assignX rfl) ?_
  refine RunT.nil ?_
  refine T.seq ?_
  refine T.seq ?_
  refine T.region ?_
  refine RunT.ot0 (x := .lst (List.map eB a0)) rfl rfl rfl rfl (.moveX rfl) ?_
  refine RunT.ot0 (x := .v (.int .i64 (a0.length : Int))) rfl rfl rfl rfl (.lenLm Try.underlying34 rfl rfl) ?_
  refine RunT.ot0 (x := .lst (List.map eB a1)) rfl rfl rfl rfl (.moveX rfl) ?_
  refine RunT.ot0 (x := .v (.int .i64 (a1.length : Int))) rfl rfl rfl rfl (.lenLm Try.underlying34 rfl rfl) ?_
  refine RunT.ot0 (x := .v (.bool (!decide ((a0.length : Int) = (a1.length : Int))))) rfl rfl rfl rfl (.bin rfl rfl (fun w => b_neq w) rfl) ?_
  refine RunT.nil ?_
  refine T.cond2 (t := !decide ((a0.length : Int) = (a1.length : Int))) rfl (fun c1 => ?_) (fun c1 => ?_)
  · replace H := ct H c1
    refine T.seq ?_
    refine T.region ?_
    refine RunT.ot0 (x := .v (.bool false)) rfl rfl rfl rfl (.assignX rfl) ?_
    refine RunT.nil ?_
    obtain rfl := si H
    refine T.sub (sub_to (st' := ⟨[(4, .v (.bool false))], [], 8, []⟩) [] (by decide) rfl rfl (⟨⟨_, rfl, .one .v⟩, trivial⟩) (trivial)) ?_
    refine T.ret ?_
    exact RetOk.same [.v (.bool false)] ⟨rfl, trivial⟩ rfl rfl rfl
  · replace H := cf H c1
    refine T.skip ?_
    refine T.seq ?_
    refine T.seq ?_
    refine T.region ?_
    refine RunT.ot0 (x := .lst (List.map eB a0)) rfl rfl rfl rfl (.moveX rfl) ?_
    refine RunT.ot0 (x := .v (.int .i64 (a0.length : Int))) rfl rfl rfl rfl (.lenLm Try.underlying34 rfl rfl) ?_
    refine RunT.ot0 (x := .v (.int .i64 0)) rfl rfl rfl rfl (.moveX rfl) ?_
    refine RunT.nil ?_
    obtain ⟨o15, E16, HO17⟩ := bs H
    refine T.cutPE (fun v18 => o15 = .go v18) (fun v18 => ⟨[], [], 8, []⟩) ?_ ?_
    · have H := E16
      refine T.block ?_
      refine T.loopS (fun n s => ∃ (v19 : Int), slices_Equal_bool_l0 k a0 a1 n v19 = some o15 ∧ s = ⟨[(0, .lst (List.map eB a0)), (1, .lst (List.map eB a1)), (12, .v (.int .i64 (a0.length : Int))), (13, .v (.int .i64 v19))], [], 8, []⟩) k ⟨_, ⟨0, H, rfl⟩, sub_to [] (by decide) rfl rfl (⟨⟨_, rfl, .one .lst⟩, ⟨⟨_, rfl, .one .lst⟩, ⟨⟨_, rfl, .one .v⟩, ⟨⟨_, rfl, .one .v⟩, trivial⟩⟩⟩⟩) (trivial)⟩ ?_
      rintro n s ⟨v19, H, rfl⟩
      rcases n with _ | n
      · cases (show none = some _ from H)
      rw [slices_Equal_bool_l0] at H
      refine T.seq ?_
      refine T.region ?_
      refine RunT.ot0 (x := .v (.bool (decide (v19 < (a0.length : Int))))) rfl rfl rfl rfl (.bin rfl rfl (fun w => b_lss w) rfl) ?_
      refine RunT.nil ?_
      refine T.seq ?_
      refine T.cond2 (t := decide (v19 < (a0.length : Int))) rfl (fun c20 => ?_) (fun c20 => ?_)
      · replace H := ct H c20
        refine T.skip ?_
        refine T.seq ?_
        refine T.block ?_
        refine T.seq ?_
        refine T.region ?_
        refine RunT.ot0 (x := .v (.int .i64 v19)) rfl rfl rfl rfl (.moveX rfl) ?_
        refine RunT.ot0 (x := .v (.int .i64 v19)) rfl rfl rfl rfl (.assignX rfl) ?_
        refine RunT.nil ?_
        refine T.seq ?_
        refine T.draw (wr := []) mixed rfl rfl ?_ rfl
        refine RunD.ot0 (x := .lst (List.map eB a0)) rfl rfl rfl rfl (.moveX rfl) rfl ?_
        refine RunD.ot0 (x := .v (.int .i64 v19)) rfl rfl rfl rfl (.moveX rfl) rfl ?_
        obtain ⟨y25, h26, H⟩ := bs H
        refine RunD.ot0 (x := .rptr [.v (.bool y25)]) rfl rfl rfl rfl (.idxLX h26 enc_B sl34 rfl rfl rfl) rfl ?_
        refine RunD.ot0 (x := .v (.bool y25)) rfl rfl rfl rfl (.loadR ty4 rfl rfl) rfl ?_
        refine RunD.ot0 (x := .lst (List.map eB a1)) rfl rfl rfl rfl (.moveX rfl) rfl ?_
        refine RunD.ot0 (x := .v (.int .i64 v19)) rfl rfl rfl rfl (.moveX rfl) rfl ?_
        obtain ⟨y27, h28, H⟩ := bs H
        refine RunD.ot0 (x := .rptr [.v (.bool y27)]) rfl rfl rfl rfl (.idxLX h28 enc_B sl34 rfl rfl rfl) rfl ?_
        refine RunD.ot0 (x := .v (.bool y27)) rfl rfl rfl rfl (.loadR ty4 rfl rfl) rfl ?_
        refine RunD.ot0 (x := .v (.bool (!(y25 == y27)))) rfl rfl rfl rfl (.bin rfl rfl (fun w => b_neB w Try.underlying4) rfl) rfl ?_
        refine RunD.nil (by kernel_rfl) ⟨rfl, rfl, ?_⟩
        refine T.cond2 (t := !(y25 == y27)) rfl (fun c29 => ?_) (fun c29 => ?_)
        · replace H := ct H c29
          refine T.seq ?_
          refine T.sub (sub_pick [] [] (st' := ⟨[], [], 80, []⟩) rfl rfl rfl rfl rfl) ?_
          refine T.region ?_
          refine RunT.ot0 (x := .v (.bool false)) rfl rfl rfl rfl (.assignX rfl) ?_
          refine RunT.nil ?_
          obtain rfl := si H
          have HX := exr HO17
          obtain rfl := si HX
          refine T.sub (sub_to (st' := ⟨[(4, .v (.bool false))], [], 8, []⟩) [] (by decide) rfl rfl (⟨⟨_, rfl, .one .v⟩, trivial⟩) (trivial)) ?_
          refine T.ret ?_
          exact RetOk.same [.v (.bool false)] ⟨rfl, trivial⟩ rfl rfl rfl
        · replace H := cf H c29
          refine T.skip ?_
          refine T.region ?_
          refine RunT.ot0 (x := .v (.int .i64 (wr (v19 + 1)))) rfl rfl rfl rfl (.bin rfl rfl (fun w => b_addw w) rfl) ?_
          refine RunT.ot0 (x := .v (.int .i64 (wr (v19 + 1)))) rfl rfl rfl rfl (.moveX rfl) ?_
          refine RunT.nil ?_
          exact ⟨n, Nat.lt_succ_self n, _, ⟨wr (v19 + 1), H, rfl⟩, (sub_to [] (by decide) rfl rfl (⟨⟨_, rfl, .one .lst⟩, ⟨⟨_, rfl, .one .lst⟩, ⟨⟨_, rfl, .one .v⟩, ⟨⟨_, rfl, .one .v⟩, trivial⟩⟩⟩⟩) (trivial))⟩
      · replace H := cf H c20
        refine T.exit ?_
        obtain rfl := si H
        exact ⟨_, rfl, (sub_to [] (by decide) rfl rfl (trivial) (trivial))⟩
    · intro v18 s hR hS
      subst hR
      have H := exg HO17
      refine T.sub hS ?_
      refine T.seq ?_
      refine T.region ?_
      refine RunT.ot0 (x := .v (.bool true)) rfl rfl rfl rfl (.assignX rfl) ?_
      refine RunT.nil ?_
      obtain rfl := si H
      refine T.sub (sub_to (st' := ⟨[(4, .v (.bool true))], [], 8, []⟩) [] (by decide) rfl rfl (⟨⟨_, rfl, .one .v⟩, trivial⟩) (trivial)) ?_
      refine T.ret ?_
      exact RetOk.same [.v (.bool true)] ⟨rfl, trivial⟩ rfl rfl rfl
set_option maxHeartbeats 4000000 in
theorem tree_Same_pc (al : Bool) (k : Nat) (a0 : (List Bool)) (a1 : (List Bool)) (o : Bool) (H : tree_Same k a0 a1 = some o) : PC Try.prog al 31 [.lst (List.map eB a0), .lst (List.map eB a1)] (.v (.bool o)) := by
  unfold tree_Same at H
  refine PC.of_T Try.func31 rfl rfl (n := 8) rfl rfl (.inr rfl) ?_
  intro base B w0
  refine T.st (st' := ⟨[(0, .lst (List.map eB a0)), (1, .lst (List.map eB a1))], [], 0, []⟩) rfl ?_
  refine T.seq ?_
  refine T.region ?_
  refine RunT.ot0 (x := .v (.bool false)) rfl rfl rfl rfl (.assignX rfl) ?_
  refine RunT.nil ?_
  refine T.seq ?_
  refine T.region ?_
  refine RunT.ot0 (x := .lst (List.map eB a0)) rfl rfl rfl rfl (.moveX rfl) ?_
  refine RunT.ot0 (x := .lst (List.map eB a1)) rfl rfl rfl rfl (.moveX rfl) ?_
  obtain ⟨r1, h2, H⟩ := bs H
  refine RunT.ot0 (x := .v (.bool r1)) rfl rfl rfl rfl (.callp (slices_Equal_bool_pc false k a0 a1 r1 h2) rfl ⟨(.one .lst), (.one .lst), trivial⟩ rfl rfl rfl) ?_
  refine RunT.ot0 (x := .v (.bool r1)) rfl rfl rfl rfl (.assignX rfl) ?_
  refine RunT.nil ?_
  obtain rfl := si H
  refine T.sub (sub_to (st' := ⟨[(4, .v (.bool r1))], [], 8, []⟩) [] (by decide) rfl rfl (⟨⟨_, rfl, .one .v⟩, trivial⟩) (trivial)) ?_
  refine T.ret ?_
  exact RetOk.same [.v (.bool r1)] ⟨rfl, trivial⟩ rfl rfl rfl
set_option maxHeartbeats 4000000 in
theorem law16_told_pc (al : Bool) (k : Nat)  (o : Bool) (H : law16_told k  = some o) : PC Try.prog al 23 [] (.v (.bool o)) := by
  unfold law16_told at H
  refine PC.of_T Try.func23 rfl rfl (n := 85) rfl rfl (.inr rfl) ?_
  intro base B w0
  refine T.st (st' := ⟨[], [], 0, []⟩) rfl ?_
  refine T.seq ?_
  refine T.region ?_
  refine RunT.ot0 (x := .v (.bool false)) rfl rfl rfl rfl (.assignX rfl) ?_
  refine RunT.nil ?_
  refine T.seq ?_
  refine T.region ?_
  refine RunT.ot1 (x := .own 0 0 (([true, false, true]).length)) (p0 := (0, some (.arr false 1 (List.map eB [true, false, true])))) (n' := 8) rfl rfl rfl rfl (.bslicem (d := false) (l := [true, false, true]) (f := eB) sl34 rfl rfl rfl enc_B rfl) rfl ?_
  obtain ⟨r1, h2, H⟩ := bs H
  refine RunT.ot0 (x := .lst (List.map eU8 r1)) rfl rfl rfl rfl (.callp (PC.frozen (tree_Bytes_pc false k [true, false, true] r1 h2)) rfl ⟨(.one (.all rfl (List.length_map _).symm)), trivial⟩ rfl rfl rfl) ?_
  refine RunT.ot0 (x := .lst (List.map eU8 r1)) rfl rfl rfl rfl (.assignX rfl) ?_
  refine RunT.nil ?_
  refine T.seq ?_
  refine T.region ?_
  refine RunT.ot0 (x := .lst (List.map eU8 r1)) rfl rfl rfl rfl (.moveX rfl) ?_
  obtain ⟨r3, h4, H⟩ := bs H
  refine RunT.ot0 (x := .tup [.lst (List.map eB r3.1), .v (.int .i64 r3.2)]) rfl rfl rfl rfl (.callp (PC.frozen (tree_From_pc false k r1 r3 h4)) rfl ⟨(.one .lst), trivial⟩ rfl rfl rfl) ?_
  refine RunT.ot0 (x := .tup [.lst (List.map eB r3.1), .v (.int .i64 r3.2)]) rfl rfl rfl rfl (.moveX rfl) ?_
  refine RunT.ot0 (x := .lst (List.map eB r3.1)) rfl rfl rfl rfl (.extract rfl rfl) ?_
  refine RunT.ot0 (x := .v (.int .i64 r3.2)) rfl rfl rfl rfl (.extract rfl rfl) ?_
  refine RunT.ot0 (x := .lst (List.map eB r3.1)) rfl rfl rfl rfl (.assignX rfl) ?_
  refine RunT.ot0 (x := .v (.int .i64 r3.2)) rfl rfl rfl rfl (.assignX rfl) ?_
  refine RunT.nil ?_
  refine T.seq ?_
  refine T.region ?_
  refine RunT.ot1 (x := .own 8 0 (([1, 0, 0, 0]).length)) (p0 := (8, some (.arr false 1 (List.map eU8 [1, 0, 0, 0])))) (n' := 16) rfl rfl rfl rfl (.bslicem (d := false) (l := [1, 0, 0, 0]) (f := eU8) sl35 rfl rfl rfl enc_U8 rfl) rfl ?_
  obtain ⟨r5, h6, H⟩ := bs H
  refine RunT.ot0 (x := .tup [.lst (List.map eB r5.1), .v (.int .i64 r5.2)]) rfl rfl rfl rfl (.callp (PC.frozen (tree_From_pc false k [1, 0, 0, 0] r5 h6)) rfl ⟨(.one (.all rfl (List.length_map _).symm)), trivial⟩ rfl rfl rfl) ?_
  refine RunT.ot0 (x := .tup [.lst (List.map eB r5.1), .v (.int .i64 r5.2)]) rfl rfl rfl rfl (.moveX rfl) ?_
  refine RunT.ot0 (x := .lst (List.map eB r5.1)) rfl rfl rfl rfl (.extract rfl rfl) ?_
  refine RunT.ot0 (x := .v (.int .i64 r5.2)) rfl rfl rfl rfl (.extract rfl rfl) ?_
  refine RunT.ot0 (x := .lst (List.map eB r5.1)) rfl rfl rfl rfl (.assignX rfl) ?_
  refine RunT.ot0 (x := .v (.int .i64 r5.2)) rfl rfl rfl rfl (.assignX rfl) ?_
  refine RunT.nil ?_
  refine T.seq ?_
  refine T.sub (sub_pick [1, 2, 3, 5] [] (st' := ⟨[(1, .lst (List.map eU8 r1)), (2, .lst (List.map eB r3.1)), (3, .v (.int .i64 r3.2)), (5, .v (.int .i64 r5.2))], [], 16, []⟩) rfl rfl rfl rfl rfl) ?_
  refine T.region ?_
  refine RunT.ot1 (x := .own 16 0 (([1, 0, 0, 0, 2]).length)) (p0 := (16, some (.arr false 1 (List.map eU8 [1, 0, 0, 0, 2])))) (n' := 24) rfl rfl rfl rfl (.bslicem (d := false) (l := [1, 0, 0, 0, 2]) (f := eU8) sl35 rfl rfl rfl enc_U8 rfl) rfl ?_
  obtain ⟨r7, h8, H⟩ := bs H
  refine RunT.ot0 (x := .tup [.lst (List.map eB r7.1), .v (.int .i64 r7.2)]) rfl rfl rfl rfl (.callp (PC.frozen (tree_From_pc false k [1, 0, 0, 0, 2] r7 h8)) rfl ⟨(.one (.all rfl (List.length_map _).symm)), trivial⟩ rfl rfl rfl) ?_
  refine RunT.ot0 (x := .tup [.lst (List.map eB r7.1), .v (.int .i64 r7.2)]) rfl rfl rfl rfl (.moveX rfl) ?_
  refine RunT.ot0 (x := .lst (List.map eB r7.1)) rfl rfl rfl rfl (.extract rfl rfl) ?_
  refine RunT.ot0 (x := .v (.int .i64 r7.2)) rfl rfl rfl rfl (.extract rfl rfl) ?_
  refine RunT.ot0 (x := .lst (List.map eB r7.1)) rfl rfl rfl rfl (.assignX rfl) ?_
  refine RunT.ot0 (x := .v (.int .i64 r7.2)) rfl rfl rfl rfl (.assignX rfl) ?_
  refine RunT.nil ?_
  refine T.seq ?_
  refine T.region ?_
  refine RunT.ot0 (x := .lst (List.map eB r3.1)) rfl rfl rfl rfl (.moveX rfl) ?_
  obtain ⟨r9, h10, H⟩ := bs H
  refine RunT.ot0 (x := .tup [.v (.int .i64 r9.1), .v (.int .i64 r9.2)]) rfl rfl rfl rfl (.callp (tree_Size_pc false k r3.1 r9 h10) rfl ⟨(.one .lst), trivial⟩ rfl rfl rfl) ?_
  refine RunT.ot0 (x := .tup [.v (.int .i64 r9.1), .v (.int .i64 r9.2)]) rfl rfl rfl rfl (.moveX rfl) ?_
  refine RunT.ot0 (x := .v (.int .i64 r9.1)) rfl rfl rfl rfl (.extract rfl rfl) ?_
  refine RunT.ot0 (x := .v (.int .i64 r9.2)) rfl rfl rfl rfl (.extract rfl rfl) ?_
  refine RunT.ot0 (x := .v (.int .i64 r9.1)) rfl rfl rfl rfl (.assignX rfl) ?_
  refine RunT.ot0 (x := .v (.int .i64 r9.2)) rfl rfl rfl rfl (.assignX rfl) ?_
  refine RunT.nil ?_
  refine T.seq ?_
  refine T.region ?_
  refine RunT.ot0 (x := .lst (List.map eU8 r1)) rfl rfl rfl rfl (.moveX rfl) ?_
  refine RunT.ot0 (x := .v (.string (strOf r1))) rfl rfl rfl rfl (.toStrm (d := false) (m := r1) (f := eU8) Try.underlying35 Try.underlying5 Try.underlying9 rfl (.lstm Try.underlying35 enc_U8) (fun _ => rfl)) ?_
  refine RunT.ot0 (x := .v (.bool ((strOf r1) == (⟨#[3, 0, 0, 0, 5]⟩ : ByteArray)))) rfl rfl rfl rfl (.bin rfl rfl (fun w => eqStr w) rfl) ?_
  refine RunT.ot0 (x := .v (.bool ((strOf r1) == (⟨#[3, 0, 0, 0, 5]⟩ : ByteArray)))) rfl rfl rfl rfl (.moveX rfl) ?_
  refine RunT.cases (t := 35) (c := (strOf r1) == (⟨#[3, 0, 0, 0, 5]⟩ : ByteArray)) rfl (fun g11 => ?_) (fun g11 => ?_)
  · replace H := ct H g11
    refine RunT.gt0 (x := .v (.int .i64 r3.2)) rfl rfl rfl (bo g11) rfl rfl (.moveX rfl) ?_
    refine RunT.gt0 (x := .v (.bool (decide (r3.2 = 0)))) rfl rfl rfl (bo g11) rfl rfl (.bin rfl rfl (fun w => b_eql w) rfl) ?_
    refine RunT.ot0 (x := .v (.bool (decide (r3.2 = 0)))) rfl rfl rfl rfl (.pickT (bo g11) rfl) ?_
    refine RunT.ot0 (x := .v (.bool (decide (r3.2 = 0)))) rfl rfl rfl rfl (.moveX rfl) ?_
    refine RunT.cases (t := 39) (c := decide (r3.2 = 0)) rfl (fun g12 => ?_) (fun g12 => ?_)
    · replace H := ct H g12
      refine RunT.gt0 (x := .lst (List.map eB r3.1)) rfl rfl rfl (bo g12) rfl rfl (.moveX rfl) ?_
      refine RunT.gt0 (x := .v (.int .i64 (r3.1.length : Int))) rfl rfl rfl (bo g12) rfl rfl (.lenLm Try.underlying34 rfl rfl) ?_
      refine RunT.gt0 (x := .v (.bool (decide ((r3.1.length : Int) = 3)))) rfl rfl rfl (bo g12) rfl rfl (.bin rfl rfl (fun w => b_eql w) rfl) ?_
      refine RunT.ot0 (x := .v (.bool (decide ((r3.1.length : Int) = 3)))) rfl rfl rfl rfl (.pickT (bo g12) rfl) ?_
      refine RunT.ot0 (x := .v (.bool (decide ((r3.1.length : Int) = 3)))) rfl rfl rfl rfl (.moveX rfl) ?_
      refine RunT.cases (t := 44) (c := decide ((r3.1.length : Int) = 3)) rfl (fun g13 => ?_) (fun g13 => ?_)
      · replace H := ct H g13
        refine RunT.gt0 (x := .lst (List.map eB r3.1)) rfl rfl rfl (bo g13) rfl rfl (.moveX rfl) ?_
        obtain ⟨y14, h15, H⟩ := bs H
        refine RunT.gt0 (x := .rptr [.v (.bool y14)]) rfl rfl rfl (bo g13) rfl rfl (.idxLX h15 enc_B sl34 rfl rfl rfl) ?_
        refine RunT.gt0 (x := .v (.bool y14)) rfl rfl rfl (bo g13) rfl rfl (.loadR ty4 rfl rfl) ?_
        refine RunT.ot0 (x := .v (.bool y14)) rfl rfl rfl rfl (.pickT (bo g13) rfl) ?_
        refine RunT.ot0 (x := .v (.bool y14)) rfl rfl rfl rfl (.moveX rfl) ?_
        refine RunT.cases (t := 49) (c := y14) rfl (fun g16 => ?_) (fun g16 => ?_)
        · replace H := ct H g16
          refine RunT.gt0 (x := .v (.int .i64 r5.2)) rfl rfl rfl (bo g16) rfl rfl (.moveX rfl) ?_
          refine RunT.gt0 (x := .v (.bool (decide (r5.2 = 10)))) rfl rfl rfl (bo g16) rfl rfl (.bin rfl rfl (fun w => b_eql w) rfl) ?_
          refine RunT.ot0 (x := .v (.bool (decide (r5.2 = 10)))) rfl rfl rfl rfl (.pickT (bo g16) rfl) ?_
          refine RunT.ot0 (x := .v (.bool (decide (r5.2 = 10)))) rfl rfl rfl rfl (.moveX rfl) ?_
          refine RunT.cases (t := 53) (c := decide (r5.2 = 10)) rfl (fun g17 => ?_) (fun g17 => ?_)
          · replace H := ct H g17
            refine RunT.gt0 (x := .v (.int .i64 r7.2)) rfl rfl rfl (bo g17) rfl rfl (.moveX rfl) ?_
            refine RunT.gt0 (x := .v (.bool (decide (r7.2 = 10)))) rfl rfl rfl (bo g17) rfl rfl (.bin rfl rfl (fun w => b_eql w) rfl) ?_
            refine RunT.ot0 (x := .v (.bool (decide (r7.2 = 10)))) rfl rfl rfl rfl (.pickT (bo g17) rfl) ?_
            refine RunT.ot0 (x := .v (.bool (decide (r7.2 = 10)))) rfl rfl rfl rfl (.moveX rfl) ?_
            refine RunT.cases (t := 57) (c := decide (r7.2 = 10)) rfl (fun g18 => ?_) (fun g18 => ?_)
            · replace H := ct H g18
              refine RunT.gt0 (x := .v (.int .i64 r9.1)) rfl rfl rfl (bo g18) rfl rfl (.moveX rfl) ?_
              refine RunT.gt0 (x := .v (.bool (decide (r9.1 = 2)))) rfl rfl rfl (bo g18) rfl rfl (.bin rfl rfl (fun w => b_eql w) rfl) ?_
              refine RunT.ot0 (x := .v (.bool (decide (r9.1 = 2)))) rfl rfl rfl rfl (.pickT (bo g18) rfl) ?_
              refine RunT.ot0 (x := .v (.bool (decide (r9.1 = 2)))) rfl rfl rfl rfl (.moveX rfl) ?_
              refine RunT.cases (t := 61) (c := decide (r9.1 = 2)) rfl (fun g19 => ?_) (fun g19 => ?_)
              · replace H := ct H g19
                refine RunT.gt0 (x := .v (.int .i64 r9.2)) rfl rfl rfl (bo g19) rfl rfl (.moveX rfl) ?_
                refine RunT.gt0 (x := .v (.bool (decide (r9.2 = 1)))) rfl rfl rfl (bo g19) rfl rfl (.bin rfl rfl (fun w => b_eql w) rfl) ?_
                refine RunT.ot0 (x := .v (.bool (decide (r9.2 = 1)))) rfl rfl rfl rfl (.pickT (bo g19) rfl) ?_
                refine RunT.ot0 (x := .v (.bool (decide (r9.2 = 1)))) rfl rfl rfl rfl (.moveX rfl) ?_
                refine RunT.cases (t := 65) (c := decide (r9.2 = 1)) rfl (fun g20 => ?_) (fun g20 => ?_)
                · replace H := ct H g20
                  refine RunT.gt0 (x := .lst (List.map eB r3.1)) rfl rfl rfl (bo g20) rfl rfl (.moveX rfl) ?_
                  obtain ⟨r21, h22, H⟩ := bs H
                  refine RunT.gt0 (x := .v (.int .i64 r21)) rfl rfl rfl (bo g20) rfl rfl (.callp (tree_Cuts_pc false k r3.1 r21 h22) rfl ⟨(.one .lst), trivial⟩ rfl rfl rfl) ?_
                  refine RunT.gt0 (x := .v (.bool (decide (r21 = 1)))) rfl rfl rfl (bo g20) rfl rfl (.bin rfl rfl (fun w => b_eql w) rfl) ?_
                  refine RunT.ot0 (x := .v (.bool (decide (r21 = 1)))) rfl rfl rfl rfl (.pickT (bo g20) rfl) ?_
                  refine RunT.ot0 (x := .v (.bool (decide (r21 = 1)))) rfl rfl rfl rfl (.moveX rfl) ?_
                  refine RunT.cases (t := 70) (c := decide (r21 = 1)) rfl (fun g23 => ?_) (fun g23 => ?_)
                  · replace H := ct H g23
                    refine RunT.gt0 (x := .lst (List.map eB r3.1)) rfl rfl rfl (bo g23) rfl rfl (.moveX rfl) ?_
                    refine RunT.gt1 (x := .own 24 0 (([true, false, true]).length)) (p0 := (24, some (.arr false 1 (List.map eB [true, false, true])))) (n' := 32) rfl rfl rfl (bo g23) rfl rfl (.bslicem (d := false) (l := [true, false, true]) (f := eB) sl34 rfl rfl rfl enc_B rfl) rfl ?_
                    obtain ⟨r24, h25, H⟩ := bs H
                    refine RunT.gt0 (x := .v (.bool r24)) rfl rfl rfl (bo g23) rfl rfl (.callp (tree_Same_pc false k r3.1 [true, false, true] r24 h25) rfl ⟨(.one .lst), (.one (.all rfl (List.length_map _).symm)), trivial⟩ rfl rfl rfl) ?_
                    refine RunT.ot0 (x := .v (.bool r24)) rfl rfl rfl rfl (.pickT (bo g23) rfl) ?_
                    refine RunT.ot0 (x := .v (.bool r24)) rfl rfl rfl rfl (.moveX rfl) ?_
                    refine RunT.cases (t := 75) (c := r24) rfl (fun g26 => ?_) (fun g26 => ?_)
                    · replace H := ct H g26
                      refine RunT.gt0 (x := .lst (List.map eB r3.1)) rfl rfl rfl (bo g26) rfl rfl (.moveX rfl) ?_
                      obtain ⟨r27, h28, H⟩ := bs H
                      refine RunT.gt0 (x := .v (.bool r27)) rfl rfl rfl (bo g26) rfl rfl (.callp (tree_Same_pc false k r3.1 [] r27 h28) rfl ⟨(.one .lst), (.one .nil), trivial⟩ rfl rfl rfl) ?_
                      refine RunT.gt0 (x := .v (.bool (!r27))) rfl rfl rfl (bo g26) rfl rfl (.un rfl (fun w => u_not w) rfl) ?_
                      refine RunT.ot0 (x := .v (.bool (!r27))) rfl rfl rfl rfl (.pickT (bo g26) rfl) ?_
                      refine RunT.ot0 (x := .v (.bool (!r27))) rfl rfl rfl rfl (.moveX rfl) ?_
                      refine RunT.cases (t := 80) (c := !r27) rfl (fun g29 => ?_) (fun g29 => ?_)
                      · replace H := ct H g29
                        obtain ⟨r30, h31, H⟩ := bs H
                        refine RunT.gt0 (x := .lst (List.map eU8 r30)) rfl rfl rfl (bo g29) rfl rfl (.callp (PC.frozen (tree_Bytes_pc false k [] r30 h31)) rfl ⟨(.one .nil), trivial⟩ rfl rfl rfl) ?_
                        refine RunT.gt0 (x := .v (.int .i64 (r30.length : Int))) rfl rfl rfl (bo g29) rfl rfl (.lenLm Try.underlying35 rfl rfl) ?_
                        refine RunT.gt0 (x := .v (.bool (decide ((r30.length : Int) = 4)))) rfl rfl rfl (bo g29) rfl rfl (.bin rfl rfl (fun w => b_eql w) rfl) ?_
                        refine RunT.ot0 (x := .v (.bool (decide ((r30.length : Int) = 4)))) rfl rfl rfl rfl (.pickT (bo g29) rfl) ?_
                        refine RunT.ot0 (x := .v (.bool (decide ((r30.length : Int) = 4)))) rfl rfl rfl rfl (.assignX rfl) ?_
                        refine RunT.nil ?_
                        obtain rfl := si H
                        refine T.sub (sub_to (st' := ⟨[(0, .v (.bool (decide ((r30.length : Int) = 4))))], [], 8, []⟩) [] (by decide) rfl rfl (⟨⟨_, rfl, .one .v⟩, trivial⟩) (trivial)) ?_
                        refine T.ret ?_
                        exact RetOk.same [.v (.bool (decide ((r30.length : Int) = 4)))] ⟨rfl, trivial⟩ rfl rfl rfl
                      · replace H := cf H g29
                        refine RunT.xn rfl rfl rfl (bo g29) rfl rfl ?_
                        refine RunT.xn rfl rfl rfl (bo g29) rfl rfl ?_
                        refine RunT.xn rfl rfl rfl (bo g29) rfl rfl ?_
                        refine RunT.ot0 (x := .v (.bool false)) rfl rfl rfl rfl (.pickF (bo g29) rfl) ?_
                        refine RunT.ot0 (x := .v (.bool false)) rfl rfl rfl rfl (.assignX rfl) ?_
                        refine RunT.nil ?_
                        obtain rfl := si H
                        refine T.sub (sub_to (st' := ⟨[(0, .v (.bool false))], [], 8, []⟩) [] (by decide) rfl rfl (⟨⟨_, rfl, .one .v⟩, trivial⟩) (trivial)) ?_
                        refine T.ret ?_
                        exact RetOk.same [.v (.bool false)] ⟨rfl, trivial⟩ rfl rfl rfl
                    · replace H := cf H g26
                      refine RunT.xn rfl rfl rfl (bo g26) rfl rfl ?_
                      refine RunT.xn rfl rfl rfl (bo g26) rfl rfl ?_
                      refine RunT.xn rfl rfl rfl (bo g26) rfl rfl ?_
                      refine RunT.ot0 (x := .v (.bool false)) rfl rfl rfl rfl (.pickF (bo g26) rfl) ?_
                      refine RunT.ot0 (x := .v (.bool false)) rfl rfl rfl rfl (.moveX rfl) ?_
                      refine RunT.xn rfl rfl rfl rfl rfl rfl ?_
                      refine RunT.xn rfl rfl rfl rfl rfl rfl ?_
                      refine RunT.xn rfl rfl rfl rfl rfl rfl ?_
                      refine RunT.ot0 (x := .v (.bool false)) rfl rfl rfl rfl (.pickF rfl rfl) ?_
                      refine RunT.ot0 (x := .v (.bool false)) rfl rfl rfl rfl (.assignX rfl) ?_
                      refine RunT.nil ?_
                      obtain rfl := si H
                      refine T.sub (sub_to (st' := ⟨[(0, .v (.bool false))], [], 8, []⟩) [] (by decide) rfl rfl (⟨⟨_, rfl, .one .v⟩, trivial⟩) (trivial)) ?_
                      refine T.ret ?_
                      exact RetOk.same [.v (.bool false)] ⟨rfl, trivial⟩ rfl rfl rfl
                  · replace H := cf H g23
                    refine RunT.xn rfl rfl rfl (bo g23) rfl rfl ?_
                    refine RunT.xn rfl rfl rfl (bo g23) rfl rfl ?_
                    refine RunT.xn rfl rfl rfl (bo g23) rfl rfl ?_
                    refine RunT.ot0 (x := .v (.bool false)) rfl rfl rfl rfl (.pickF (bo g23) rfl) ?_
                    refine RunT.ot0 (x := .v (.bool false)) rfl rfl rfl rfl (.moveX rfl) ?_
                    refine RunT.xn rfl rfl rfl rfl rfl rfl ?_
                    refine RunT.xn rfl rfl rfl rfl rfl rfl ?_
                    refine RunT.xn rfl rfl rfl rfl rfl rfl ?_
                    refine RunT.ot0 (x := .v (.bool false)) rfl rfl rfl rfl (.pickF rfl rfl) ?_
                    refine RunT.ot0 (x := .v (.bool false)) rfl rfl rfl rfl (.moveX rfl) ?_
                    refine RunT.xn rfl rfl rfl rfl rfl rfl ?_
                    refine RunT.xn rfl rfl rfl rfl rfl rfl ?_
                    refine RunT.xn rfl rfl rfl rfl rfl rfl ?_
                    refine RunT.ot0 (x := .v (.bool false)) rfl rfl rfl rfl (.pickF rfl rfl) ?_
                    refine RunT.ot0 (x := .v (.bool false)) rfl rfl rfl rfl (.assignX rfl) ?_
                    refine RunT.nil ?_
                    obtain rfl := si H
                    refine T.sub (sub_to (st' := ⟨[(0, .v (.bool false))], [], 8, []⟩) [] (by decide) rfl rfl (⟨⟨_, rfl, .one .v⟩, trivial⟩) (trivial)) ?_
                    refine T.ret ?_
                    exact RetOk.same [.v (.bool false)] ⟨rfl, trivial⟩ rfl rfl rfl
                · replace H := cf H g20
                  refine RunT.xn rfl rfl rfl (bo g20) rfl rfl ?_
                  refine RunT.xn rfl rfl rfl (bo g20) rfl rfl ?_
                  refine RunT.xn rfl rfl rfl (bo g20) rfl rfl ?_
                  refine RunT.ot0 (x := .v (.bool false)) rfl rfl rfl rfl (.pickF (bo g20) rfl) ?_
                  refine RunT.ot0 (x := .v (.bool false)) rfl rfl rfl rfl (.moveX rfl) ?_
                  refine RunT.xn rfl rfl rfl rfl rfl rfl ?_
                  refine RunT.xn rfl rfl rfl rfl rfl rfl ?_
                  refine RunT.xn rfl rfl rfl rfl rfl rfl ?_
                  refine RunT.ot0 (x := .v (.bool false)) rfl rfl rfl rfl (.pickF rfl rfl) ?_
                  refine RunT.ot0 (x := .v (.bool false)) rfl rfl rfl rfl (.moveX rfl) ?_
                  refine RunT.xn rfl rfl rfl rfl rfl rfl ?_
                  refine RunT.xn rfl rfl rfl rfl rfl rfl ?_
                  refine RunT.xn rfl rfl rfl rfl rfl rfl ?_
                  refine RunT.ot0 (x := .v (.bool false)) rfl rfl rfl rfl (.pickF rfl rfl) ?_
                  refine RunT.ot0 (x := .v (.bool false)) rfl rfl rfl rfl (.moveX rfl) ?_
                  refine RunT.xn rfl rfl rfl rfl rfl rfl ?_
                  refine RunT.xn rfl rfl rfl rfl rfl rfl ?_
                  refine RunT.xn rfl rfl rfl rfl rfl rfl ?_
                  refine RunT.ot0 (x := .v (.bool false)) rfl rfl rfl rfl (.pickF rfl rfl) ?_
                  refine RunT.ot0 (x := .v (.bool false)) rfl rfl rfl rfl (.assignX rfl) ?_
                  refine RunT.nil ?_
                  obtain rfl := si H
                  refine T.sub (sub_to (st' := ⟨[(0, .v (.bool false))], [], 8, []⟩) [] (by decide) rfl rfl (⟨⟨_, rfl, .one .v⟩, trivial⟩) (trivial)) ?_
                  refine T.ret ?_
                  exact RetOk.same [.v (.bool false)] ⟨rfl, trivial⟩ rfl rfl rfl
              · replace H := cf H g19
                refine RunT.xn rfl rfl rfl (bo g19) rfl rfl ?_
                refine RunT.xn rfl rfl rfl (bo g19) rfl rfl ?_
                refine RunT.ot0 (x := .v (.bool false)) rfl rfl rfl rfl (.pickF (bo g19) rfl) ?_
                refine RunT.ot0 (x := .v (.bool false)) rfl rfl rfl rfl (.moveX rfl) ?_
                refine RunT.xn rfl rfl rfl rfl rfl rfl ?_
                refine RunT.xn rfl rfl rfl rfl rfl rfl ?_
                refine RunT.xn rfl rfl rfl rfl rfl rfl ?_
                refine RunT.ot0 (x := .v (.bool false)) rfl rfl rfl rfl (.pickF rfl rfl) ?_
                refine RunT.ot0 (x := .v (.bool false)) rfl rfl rfl rfl (.moveX rfl) ?_
                refine RunT.xn rfl rfl rfl rfl rfl rfl ?_
                refine RunT.xn rfl rfl rfl rfl rfl rfl ?_
                refine RunT.xn rfl rfl rfl rfl rfl rfl ?_
                refine RunT.ot0 (x := .v (.bool false)) rfl rfl rfl rfl (.pickF rfl rfl) ?_
                refine RunT.ot0 (x := .v (.bool false)) rfl rfl rfl rfl (.moveX rfl) ?_
                refine RunT.xn rfl rfl rfl rfl rfl rfl ?_
                refine RunT.xn rfl rfl rfl rfl rfl rfl ?_
                refine RunT.xn rfl rfl rfl rfl rfl rfl ?_
                refine RunT.ot0 (x := .v (.bool false)) rfl rfl rfl rfl (.pickF rfl rfl) ?_
                refine RunT.ot0 (x := .v (.bool false)) rfl rfl rfl rfl (.moveX rfl) ?_
                refine RunT.xn rfl rfl rfl rfl rfl rfl ?_
                refine RunT.xn rfl rfl rfl rfl rfl rfl ?_
                refine RunT.xn rfl rfl rfl rfl rfl rfl ?_
                refine RunT.ot0 (x := .v (.bool false)) rfl rfl rfl rfl (.pickF rfl rfl) ?_
                refine RunT.ot0 (x := .v (.bool false)) rfl rfl rfl rfl (.assignX rfl) ?_
                refine RunT.nil ?_
                obtain rfl := si H
                refine T.sub (sub_to (st' := ⟨[(0, .v (.bool false))], [], 8, []⟩) [] (by decide) rfl rfl (⟨⟨_, rfl, .one .v⟩, trivial⟩) (trivial)) ?_
                refine T.ret ?_
                exact RetOk.same [.v (.bool false)] ⟨rfl, trivial⟩ rfl rfl rfl
            · replace H := cf H g18
              refine RunT.xn rfl rfl rfl (bo g18) rfl rfl ?_
              refine RunT.xn rfl rfl rfl (bo g18) rfl rfl ?_
              refine RunT.ot0 (x := .v (.bool false)) rfl rfl rfl rfl (.pickF (bo g18) rfl) ?_
              refine RunT.ot0 (x := .v (.bool false)) rfl rfl rfl rfl (.moveX rfl) ?_
              refine RunT.xn rfl rfl rfl rfl rfl rfl ?_
              refine RunT.xn rfl rfl rfl rfl rfl rfl ?_
              refine RunT.ot0 (x := .v (.bool false)) rfl rfl rfl rfl (.pickF rfl rfl) ?_
              refine RunT.ot0 (x := .v (.bool false)) rfl rfl rfl rfl (.moveX rfl) ?_
              refine RunT.xn rfl rfl rfl rfl rfl rfl ?_
              refine RunT.xn rfl rfl rfl rfl rfl rfl ?_
              refine RunT.xn rfl rfl rfl rfl rfl rfl ?_
              refine RunT.ot0 (x := .v (.bool false)) rfl rfl rfl rfl (.pickF rfl rfl) ?_
              refine RunT.ot0 (x := .v (.bool false)) rfl rfl rfl rfl (.moveX rfl) ?_
              refine RunT.xn rfl rfl rfl rfl rfl rfl ?_
              refine RunT.xn rfl rfl rfl rfl rfl rfl ?_
              refine RunT.xn rfl rfl rfl rfl rfl rfl ?_
              refine RunT.ot0 (x := .v (.bool false)) rfl rfl rfl rfl (.pickF rfl rfl) ?_
              refine RunT.ot0 (x := .v (.bool false)) rfl rfl rfl rfl (.moveX rfl) ?_
              refine RunT.xn rfl rfl rfl rfl rfl rfl ?_
              refine RunT.xn rfl rfl rfl rfl rfl rfl ?_
              refine RunT.xn rfl rfl rfl rfl rfl rfl ?_
              refine RunT.ot0 (x := .v (.bool false)) rfl rfl rfl rfl (.pickF rfl rfl) ?_
              refine RunT.ot0 (x := .v (.bool false)) rfl rfl rfl rfl (.moveX rfl) ?_
              refine RunT.xn rfl rfl rfl rfl rfl rfl ?_
              refine RunT.xn rfl rfl rfl rfl rfl rfl ?_
              refine RunT.xn rfl rfl rfl rfl rfl rfl ?_
              refine RunT.ot0 (x := .v (.bool false)) rfl rfl rfl rfl (.pickF rfl rfl) ?_
              refine RunT.ot0 (x := .v (.bool false)) rfl rfl rfl rfl (.assignX rfl) ?_
              refine RunT.nil ?_
              obtain rfl := si H
              refine T.sub (sub_to (st' := ⟨[(0, .v (.bool false))], [], 8, []⟩) [] (by decide) rfl rfl (⟨⟨_, rfl, .one .v⟩, trivial⟩) (trivial)) ?_
              refine T.ret ?_
              exact RetOk.same [.v (.bool false)] ⟨rfl, trivial⟩ rfl rfl rfl
          · replace H := cf H g17
            refine RunT.xn rfl rfl rfl (bo g17) rfl rfl ?_
            refine RunT.xn rfl rfl rfl (bo g17) rfl rfl ?_
            refine RunT.ot0 (x := .v (.bool false)) rfl rfl rfl rfl (.pickF (bo g17) rfl) ?_
            refine RunT.ot0 (x := .v (.bool false)) rfl rfl rfl rfl (.moveX rfl) ?_
            refine RunT.xn rfl rfl rfl rfl rfl rfl ?_
            refine RunT.xn rfl rfl rfl rfl rfl rfl ?_
            refine RunT.ot0 (x := .v (.bool false)) rfl rfl rfl rfl (.pickF rfl rfl) ?_
            refine RunT.ot0 (x := .v (.bool false)) rfl rfl rfl rfl (.moveX rfl) ?_
            refine RunT.xn rfl rfl rfl rfl rfl rfl ?_
            refine RunT.xn rfl rfl rfl rfl rfl rfl ?_
            refine RunT.ot0 (x := .v (.bool false)) rfl rfl rfl rfl (.pickF rfl rfl) ?_
            refine RunT.ot0 (x := .v (.bool false)) rfl rfl rfl rfl (.moveX rfl) ?_
            refine RunT.xn rfl rfl rfl rfl rfl rfl ?_
            refine RunT.xn rfl rfl rfl rfl rfl rfl ?_
            refine RunT.xn rfl rfl rfl rfl rfl rfl ?_
            refine RunT.ot0 (x := .v (.bool false)) rfl rfl rfl rfl (.pickF rfl rfl) ?_
            refine RunT.ot0 (x := .v (.bool false)) rfl rfl rfl rfl (.moveX rfl) ?_
            refine RunT.xn rfl rfl rfl rfl rfl rfl ?_
            refine RunT.xn rfl rfl rfl rfl rfl rfl ?_
            refine RunT.xn rfl rfl rfl rfl rfl rfl ?_
            refine RunT.ot0 (x := .v (.bool false)) rfl rfl rfl rfl (.pickF rfl rfl) ?_
            refine RunT.ot0 (x := .v (.bool false)) rfl rfl rfl rfl (.moveX rfl) ?_
            refine RunT.xn rfl rfl rfl rfl rfl rfl ?_
            refine RunT.xn rfl rfl rfl rfl rfl rfl ?_
            refine RunT.xn rfl rfl rfl rfl rfl rfl ?_
            refine RunT.ot0 (x := .v (.bool false)) rfl rfl rfl rfl (.pickF rfl rfl) ?_
            refine RunT.ot0 (x := .v (.bool false)) rfl rfl rfl rfl (.moveX rfl) ?_
            refine RunT.xn rfl rfl rfl rfl rfl rfl ?_
            refine RunT.xn rfl rfl rfl rfl rfl rfl ?_
            refine RunT.xn rfl rfl rfl rfl rfl rfl ?_
            refine RunT.ot0 (x := .v (.bool false)) rfl rfl rfl rfl (.pickF rfl rfl) ?_
            refine RunT.ot0 (x := .v (.bool false)) rfl rfl rfl rfl (.assignX rfl) ?_
            refine RunT.nil ?_
            obtain rfl := si H
            refine T.sub (sub_to (st' := ⟨[(0, .v (.bool false))], [], 8, []⟩) [] (by decide) rfl rfl (⟨⟨_, rfl, .one .v⟩, trivial⟩) (trivial)) ?_
            refine T.ret ?_
            exact RetOk.same [.v (.bool false)] ⟨rfl, trivial⟩ rfl rfl rfl
        · replace H := cf H g16
          refine RunT.xn rfl rfl rfl (bo g16) rfl rfl ?_
          refine RunT.xn rfl rfl rfl (bo g16) rfl rfl ?_
          refine RunT.ot0 (x := .v (.bool false)) rfl rfl rfl rfl (.pickF (bo g16) rfl) ?_
          refine RunT.ot0 (x := .v (.bool false)) rfl rfl rfl rfl (.moveX rfl) ?_
          refine RunT.xn rfl rfl rfl rfl rfl rfl ?_
          refine RunT.xn rfl rfl rfl rfl rfl rfl ?_
          refine RunT.ot0 (x := .v (.bool false)) rfl rfl rfl rfl (.pickF rfl rfl) ?_
          refine RunT.ot0 (x := .v (.bool false)) rfl rfl rfl rfl (.moveX rfl) ?_
          refine RunT.xn rfl rfl rfl rfl rfl rfl ?_
          refine RunT.xn rfl rfl rfl rfl rfl rfl ?_
          refine RunT.ot0 (x := .v (.bool false)) rfl rfl rfl rfl (.pickF rfl rfl) ?_
          refine RunT.ot0 (x := .v (.bool false)) rfl rfl rfl rfl (.moveX rfl) ?_
          refine RunT.xn rfl rfl rfl rfl rfl rfl ?_
          refine RunT.xn rfl rfl rfl rfl rfl rfl ?_
          refine RunT.ot0 (x := .v (.bool false)) rfl rfl rfl rfl (.pickF rfl rfl) ?_
          refine RunT.ot0 (x := .v (.bool false)) rfl rfl rfl rfl (.moveX rfl) ?_
          refine RunT.xn rfl rfl rfl rfl rfl rfl ?_
          refine RunT.xn rfl rfl rfl rfl rfl rfl ?_
          refine RunT.xn rfl rfl rfl rfl rfl rfl ?_
          refine RunT.ot0 (x := .v (.bool false)) rfl rfl rfl rfl (.pickF rfl rfl) ?_
          refine RunT.ot0 (x := .v (.bool false)) rfl rfl rfl rfl (.moveX rfl) ?_
          refine RunT.xn rfl rfl rfl rfl rfl rfl ?_
          refine RunT.xn rfl rfl rfl rfl rfl rfl ?_
          refine RunT.xn rfl rfl rfl rfl rfl rfl ?_
          refine RunT.ot0 (x := .v (.bool false)) rfl rfl rfl rfl (.pickF rfl rfl) ?_
          refine RunT.ot0 (x := .v (.bool false)) rfl rfl rfl rfl (.moveX rfl) ?_
          refine RunT.xn rfl rfl rfl rfl rfl rfl ?_
          refine RunT.xn rfl rfl rfl rfl rfl rfl ?_
          refine RunT.xn rfl rfl rfl rfl rfl rfl ?_
          refine RunT.ot0 (x := .v (.bool false)) rfl rfl rfl rfl (.pickF rfl rfl) ?_
          refine RunT.ot0 (x := .v (.bool false)) rfl rfl rfl rfl (.moveX rfl) ?_
          refine RunT.xn rfl rfl rfl rfl rfl rfl ?_
          refine RunT.xn rfl rfl rfl rfl rfl rfl ?_
          refine RunT.xn rfl rfl rfl rfl rfl rfl ?_
          refine RunT.ot0 (x := .v (.bool false)) rfl rfl rfl rfl (.pickF rfl rfl) ?_
          refine RunT.ot0 (x := .v (.bool false)) rfl rfl rfl rfl (.assignX rfl) ?_
          refine RunT.nil ?_
          obtain rfl := si H
          refine T.sub (sub_to (st' := ⟨[(0, .v (.bool false))], [], 8, []⟩) [] (by decide) rfl rfl (⟨⟨_, rfl, .one .v⟩, trivial⟩) (trivial)) ?_
          refine T.ret ?_
          exact RetOk.same [.v (.bool false)] ⟨rfl, trivial⟩ rfl rfl rfl
      · replace H := cf H g13
        refine RunT.xn rfl rfl rfl (bo g13) rfl rfl ?_
        refine RunT.xn rfl rfl rfl (bo g13) rfl rfl ?_
        refine RunT.xn rfl rfl rfl (bo g13) rfl rfl ?_
        refine RunT.ot0 (x := .v (.bool false)) rfl rfl rfl rfl (.pickF (bo g13) rfl) ?_
        refine RunT.ot0 (x := .v (.bool false)) rfl rfl rfl rfl (.moveX rfl) ?_
        refine RunT.xn rfl rfl rfl rfl rfl rfl ?_
        refine RunT.xn rfl rfl rfl rfl rfl rfl ?_
        refine RunT.ot0 (x := .v (.bool false)) rfl rfl rfl rfl (.pickF rfl rfl) ?_
        refine RunT.ot0 (x := .v (.bool false)) rfl rfl rfl rfl (.moveX rfl) ?_
        refine RunT.xn rfl rfl rfl rfl rfl rfl ?_
        refine RunT.xn rfl rfl rfl rfl rfl rfl ?_
        refine RunT.ot0 (x := .v (.bool false)) rfl rfl rfl rfl (.pickF rfl rfl) ?_
        refine RunT.ot0 (x := .v (.bool false)) rfl rfl rfl rfl (.moveX rfl) ?_
        refine RunT.xn rfl rfl rfl rfl rfl rfl ?_
        refine RunT.xn rfl rfl rfl rfl rfl rfl ?_
        refine RunT.ot0 (x := .v (.bool false)) rfl rfl rfl rfl (.pickF rfl rfl) ?_
        refine RunT.ot0 (x := .v (.bool false)) rfl rfl rfl rfl (.moveX rfl) ?_
        refine RunT.xn rfl rfl rfl rfl rfl rfl ?_
        refine RunT.xn rfl rfl rfl rfl rfl rfl ?_
        refine RunT.ot0 (x := .v (.bool false)) rfl rfl rfl rfl (.pickF rfl rfl) ?_
        refine RunT.ot0 (x := .v (.bool false)) rfl rfl rfl rfl (.moveX rfl) ?_
        refine RunT.xn rfl rfl rfl rfl rfl rfl ?_
        refine RunT.xn rfl rfl rfl rfl rfl rfl ?_
        refine RunT.xn rfl rfl rfl rfl rfl rfl ?_
        refine RunT.ot0 (x := .v (.bool false)) rfl rfl rfl rfl (.pickF rfl rfl) ?_
        refine RunT.ot0 (x := .v (.bool false)) rfl rfl rfl rfl (.moveX rfl) ?_
        refine RunT.xn rfl rfl rfl rfl rfl rfl ?_
        refine RunT.xn rfl rfl rfl rfl rfl rfl ?_
        refine RunT.xn rfl rfl rfl rfl rfl rfl ?_
        refine RunT.ot0 (x := .v (.bool false)) rfl rfl rfl rfl (.pickF rfl rfl) ?_
        refine RunT.ot0 (x := .v (.bool false)) rfl rfl rfl rfl (.moveX rfl) ?_
        refine RunT.xn rfl rfl rfl rfl rfl rfl ?_
        refine RunT.xn rfl rfl rfl rfl rfl rfl ?_
        refine RunT.xn rfl rfl rfl rfl rfl rfl ?_
        refine RunT.ot0 (x := .v (.bool false)) rfl rfl rfl rfl (.pickF rfl rfl) ?_
        refine RunT.ot0 (x := .v (.bool false)) rfl rfl rfl rfl (.moveX rfl) ?_
        refine RunT.xn rfl rfl rfl rfl rfl rfl ?_
        refine RunT.xn rfl rfl rfl rfl rfl rfl ?_
        refine RunT.xn rfl rfl rfl rfl rfl rfl ?_
        refine RunT.ot0 (x := .v (.bool false)) rfl rfl rfl rfl (.pickF rfl rfl) ?_
        refine RunT.ot0 (x := .v (.bool false)) rfl rfl rfl rfl (.assignX rfl) ?_
        refine RunT.nil ?_
        obtain rfl := si H
        refine T.sub (sub_to (st' := ⟨[(0, .v (.bool false))], [], 8, []⟩) [] (by decide) rfl rfl (⟨⟨_, rfl, .one .v⟩, trivial⟩) (trivial)) ?_
        refine T.ret ?_
        exact RetOk.same [.v (.bool false)] ⟨rfl, trivial⟩ rfl rfl rfl
    · replace H := cf H g12
      refine RunT.xn rfl rfl rfl (bo g12) rfl rfl ?_
      refine RunT.xn rfl rfl rfl (bo g12) rfl rfl ?_
      refine RunT.xn rfl rfl rfl (bo g12) rfl rfl ?_
      refine RunT.ot0 (x := .v (.bool false)) rfl rfl rfl rfl (.pickF (bo g12) rfl) ?_
      refine RunT.ot0 (x := .v (.bool false)) rfl rfl rfl rfl (.moveX rfl) ?_
      refine RunT.xn rfl rfl rfl rfl rfl rfl ?_
      refine RunT.xn rfl rfl rfl rfl rfl rfl ?_
      refine RunT.xn rfl rfl rfl rfl rfl rfl ?_
      refine RunT.ot0 (x := .v (.bool false)) rfl rfl rfl rfl (.pickF rfl rfl) ?_
      refine RunT.ot0 (x := .v (.bool false)) rfl rfl rfl rfl (.moveX rfl) ?_
      refine RunT.xn rfl rfl rfl rfl rfl rfl ?_
      refine RunT.xn rfl rfl rfl rfl rfl rfl ?_
      refine RunT.ot0 (x := .v (.bool false)) rfl rfl rfl rfl (.pickF rfl rfl) ?_
      refine RunT.ot0 (x := .v (.bool false)) rfl rfl rfl rfl (.moveX rfl) ?_
      refine RunT.xn rfl rfl rfl rfl rfl rfl ?_
      refine RunT.xn rfl rfl rfl rfl rfl rfl ?_
      refine RunT.ot0 (x := .v (.bool false)) rfl rfl rfl rfl (.pickF rfl rfl) ?_
      refine RunT.ot0 (x := .v (.bool false)) rfl rfl rfl rfl (.moveX rfl) ?_
      refine RunT.xn rfl rfl rfl rfl rfl rfl ?_
      refine RunT.xn rfl rfl rfl rfl rfl rfl ?_
      refine RunT.ot0 (x := .v (.bool false)) rfl rfl rfl rfl (.pickF rfl rfl) ?_
      refine RunT.ot0 (x := .v (.bool false)) rfl rfl rfl rfl (.moveX rfl) ?_
      refine RunT.xn rfl rfl rfl rfl rfl rfl ?_
      refine RunT.xn rfl rfl rfl rfl rfl rfl ?_
      refine RunT.ot0 (x := .v (.bool false)) rfl rfl rfl rfl (.pickF rfl rfl) ?_
      refine RunT.ot0 (x := .v (.bool false)) rfl rfl rfl rfl (.moveX rfl) ?_
      refine RunT.xn rfl rfl rfl rfl rfl rfl ?_
      refine RunT.xn rfl rfl rfl rfl rfl rfl ?_
      refine RunT.xn rfl rfl rfl rfl rfl rfl ?_
      refine RunT.ot0 (x := .v (.bool false)) rfl rfl rfl rfl (.pickF rfl rfl) ?_
      refine RunT.ot0 (x := .v (.bool false)) rfl rfl rfl rfl (.moveX rfl) ?_
      refine RunT.xn rfl rfl rfl rfl rfl rfl ?_
      refine RunT.xn rfl rfl rfl rfl rfl rfl ?_
      refine RunT.xn rfl rfl rfl rfl rfl rfl ?_
      refine RunT.ot0 (x := .v (.bool false)) rfl rfl rfl rfl (.pickF rfl rfl) ?_
      refine RunT.ot0 (x := .v (.bool false)) rfl rfl rfl rfl (.moveX rfl) ?_
      refine RunT.xn rfl rfl rfl rfl rfl rfl ?_
      refine RunT.xn rfl rfl rfl rfl rfl rfl ?_
      refine RunT.xn rfl rfl rfl rfl rfl rfl ?_
      refine RunT.ot0 (x := .v (.bool false)) rfl rfl rfl rfl (.pickF rfl rfl) ?_
      refine RunT.ot0 (x := .v (.bool false)) rfl rfl rfl rfl (.moveX rfl) ?_
      refine RunT.xn rfl rfl rfl rfl rfl rfl ?_
      refine RunT.xn rfl rfl rfl rfl rfl rfl ?_
      refine RunT.xn rfl rfl rfl rfl rfl rfl ?_
      refine RunT.ot0 (x := .v (.bool false)) rfl rfl rfl rfl (.pickF rfl rfl) ?_
      refine RunT.ot0 (x := .v (.bool false)) rfl rfl rfl rfl (.assignX rfl) ?_
      refine RunT.nil ?_
      obtain rfl := si H
      refine T.sub (sub_to (st' := ⟨[(0, .v (.bool false))], [], 8, []⟩) [] (by decide) rfl rfl (⟨⟨_, rfl, .one .v⟩, trivial⟩) (trivial)) ?_
      refine T.ret ?_
      exact RetOk.same [.v (.bool false)] ⟨rfl, trivial⟩ rfl rfl rfl
  · replace H := cf H g11
    refine RunT.xn rfl rfl rfl (bo g11) rfl rfl ?_
    refine RunT.xn rfl rfl rfl (bo g11) rfl rfl ?_
    refine RunT.ot0 (x := .v (.bool false)) rfl rfl rfl rfl (.pickF (bo g11) rfl) ?_
    refine RunT.ot0 (x := .v (.bool false)) rfl rfl rfl rfl (.moveX rfl) ?_
    refine RunT.xn rfl rfl rfl rfl rfl rfl ?_
    refine RunT.xn rfl rfl rfl rfl rfl rfl ?_
    refine RunT.xn rfl rfl rfl rfl rfl rfl ?_
    refine RunT.ot0 (x := .v (.bool false)) rfl rfl rfl rfl (.pickF rfl rfl) ?_
    refine RunT.ot0 (x := .v (.bool false)) rfl rfl rfl rfl (.moveX rfl) ?_
    refine RunT.xn rfl rfl rfl rfl rfl rfl ?_
    refine RunT.xn rfl rfl rfl rfl rfl rfl ?_
    refine RunT.xn rfl rfl rfl rfl rfl rfl ?_
    refine RunT.ot0 (x := .v (.bool false)) rfl rfl rfl rfl (.pickF rfl rfl) ?_
    refine RunT.ot0 (x := .v (.bool false)) rfl rfl rfl rfl (.moveX rfl) ?_
    refine RunT.xn rfl rfl rfl rfl rfl rfl ?_
    refine RunT.xn rfl rfl rfl rfl rfl rfl ?_
    refine RunT.ot0 (x := .v (.bool false)) rfl rfl rfl rfl (.pickF rfl rfl) ?_
    refine RunT.ot0 (x := .v (.bool false)) rfl rfl rfl rfl (.moveX rfl) ?_
    refine RunT.xn rfl rfl rfl rfl rfl rfl ?_
    refine RunT.xn rfl rfl rfl rfl rfl rfl ?_
    refine RunT.ot0 (x := .v (.bool false)) rfl rfl rfl rfl (.pickF rfl rfl) ?_
    refine RunT.ot0 (x := .v (.bool false)) rfl rfl rfl rfl (.moveX rfl) ?_
    refine RunT.xn rfl rfl rfl rfl rfl rfl ?_
    refine RunT.xn rfl rfl rfl rfl rfl rfl ?_
    refine RunT.ot0 (x := .v (.bool false)) rfl rfl rfl rfl (.pickF rfl rfl) ?_
    refine RunT.ot0 (x := .v (.bool false)) rfl rfl rfl rfl (.moveX rfl) ?_
    refine RunT.xn rfl rfl rfl rfl rfl rfl ?_
    refine RunT.xn rfl rfl rfl rfl rfl rfl ?_
    refine RunT.ot0 (x := .v (.bool false)) rfl rfl rfl rfl (.pickF rfl rfl) ?_
    refine RunT.ot0 (x := .v (.bool false)) rfl rfl rfl rfl (.moveX rfl) ?_
    refine RunT.xn rfl rfl rfl rfl rfl rfl ?_
    refine RunT.xn rfl rfl rfl rfl rfl rfl ?_
    refine RunT.xn rfl rfl rfl rfl rfl rfl ?_
    refine RunT.ot0 (x := .v (.bool false)) rfl rfl rfl rfl (.pickF rfl rfl) ?_
    refine RunT.ot0 (x := .v (.bool false)) rfl rfl rfl rfl (.moveX rfl) ?_
    refine RunT.xn rfl rfl rfl rfl rfl rfl ?_
    refine RunT.xn rfl rfl rfl rfl rfl rfl ?_
    refine RunT.xn rfl rfl rfl rfl rfl rfl ?_
    refine RunT.ot0 (x := .v (.bool false)) rfl rfl rfl rfl (.pickF rfl rfl) ?_
    refine RunT.ot0 (x := .v (.bool false)) rfl rfl rfl rfl (.moveX rfl) ?_
    refine RunT.xn rfl rfl rfl rfl rfl rfl ?_
    refine RunT.xn rfl rfl rfl rfl rfl rfl ?_
    refine RunT.xn rfl rfl rfl rfl rfl rfl ?_
    refine RunT.ot0 (x := .v (.bool false)) rfl rfl rfl rfl (.pickF rfl rfl) ?_
    refine RunT.ot0 (x := .v (.bool false)) rfl rfl rfl rfl (.moveX rfl) ?_
    refine RunT.xn rfl rfl rfl rfl rfl rfl ?_
    refine RunT.xn rfl rfl rfl rfl rfl rfl ?_
    refine RunT.xn rfl rfl rfl rfl rfl rfl ?_
    refine RunT.ot0 (x := .v (.bool false)) rfl rfl rfl rfl (.pickF rfl rfl) ?_
    refine RunT.ot0 (x := .v (.bool false)) rfl rfl rfl rfl (.assignX rfl) ?_
    refine RunT.nil ?_
    obtain rfl := si H
    refine T.sub (sub_to (st' := ⟨[(0, .v (.bool false))], [], 8, []⟩) [] (by decide) rfl rfl (⟨⟨_, rfl, .one .v⟩, trivial⟩) (trivial)) ?_
    refine T.ret ?_
    exact RetOk.same [.v (.bool false)] ⟨rfl, trivial⟩ rfl rfl rfl
set_option maxHeartbeats 4000000 in
theorem law16_TreeBack_pc (al : Bool) (k : Nat) (a0 : (List Bool)) (a1 : Int) (a2 : Int) (o : Bool) (H : law16_TreeBack k a0 a1 a2 = some o) : PC Try.prog al 8 [.lst (List.map eB a0), .v (.int .i64 a1), .v (.int .u8 a2)] (.v (.bool o)) := by
  unfold law16_TreeBack at H
  refine PC.of_T Try.func8 rfl rfl (n := 120) rfl rfl (.inr rfl) ?_
  intro base B w0
  refine T.st (st' := ⟨[(0, .lst (List.map eB a0)), (1, .v (.int .i64 a1)), (2, .v (.int .u8 a2))], [], 0, []⟩) rfl ?_
  refine T.seq ?_
  refine T.region ?_
  refine RunT.ot0 (x := .v (.bool false)) rfl rfl rfl rfl (.assignX rfl) ?_
  refine RunT.nil ?_
  refine T.seq ?_
  refine T.seq ?_
  refine T.region ?_
  refine RunT.ot0 (x := .lst (List.map eB a0)) rfl rfl rfl rfl (.moveX rfl) ?_
  refine RunT.ot0 (x := .v (.int .i64 (a0.length : Int))) rfl rfl rfl rfl (.lenLm Try.underlying34 rfl rfl) ?_
  refine RunT.ot0 (x := .v (.bool (decide (200 < (a0.length : Int))))) rfl rfl rfl rfl (.bin rfl rfl (fun w => b_gtr w) rfl) ?_
  refine RunT.nil ?_
  refine T.cond2 (t := decide (200 < (a0.length : Int))) rfl (fun c1 => ?_) (fun c1 => ?_)
  · replace H := ct H c1
    refine T.seq ?_
    refine T.region ?_
    obtain ⟨r2, h3, H⟩ := bs H
    refine RunT.ot0 (x := .v (.bool r2)) rfl rfl rfl rfl (.callp (law16_told_pc false k  r2 h3) rfl trivial rfl rfl rfl) ?_
    refine RunT.ot0 (x := .v (.bool r2)) rfl rfl rfl rfl (.assignX rfl) ?_
    refine RunT.nil ?_
    obtain rfl := si H
    refine T.sub (sub_to (st' := ⟨[(6, .v (.bool r2))], [], 8, []⟩) [] (by decide) rfl rfl (⟨⟨_, rfl, .one .v⟩, trivial⟩) (trivial)) ?_
    refine T.ret ?_
    exact RetOk.same [.v (.bool r2)] ⟨rfl, trivial⟩ rfl rfl rfl
  · replace H := cf H c1
    refine T.skip ?_
    refine T.seq ?_
    refine T.region ?_
    refine RunT.ot0 (x := .lst (List.map eB a0)) rfl rfl rfl rfl (.moveX rfl) ?_
    obtain ⟨r4, h5, H⟩ := bs H
    refine RunT.ot0 (x := .lst (List.map eU8 r4)) rfl rfl rfl rfl (.callp (PC.frozen (tree_Bytes_pc false k a0 r4 h5)) rfl ⟨(.one .lst), trivial⟩ rfl rfl rfl) ?_
    refine RunT.ot0 (x := .lst (List.map eU8 r4)) rfl rfl rfl rfl (.assignX rfl) ?_
    refine RunT.nil ?_
    refine T.seq ?_
    refine T.region ?_
    refine RunT.ot0 (x := .lst (List.map eU8 r4)) rfl rfl rfl rfl (.moveX rfl) ?_
    obtain ⟨r6, h7, H⟩ := bs H
    refine RunT.ot0 (x := .tup [.lst (List.map eB r6.1), .v (.int .i64 r6.2)]) rfl rfl rfl rfl (.callp (PC.frozen (tree_From_pc false k r4 r6 h7)) rfl ⟨(.one .lst), trivial⟩ rfl rfl rfl) ?_
    refine RunT.ot0 (x := .tup [.lst (List.map eB r6.1), .v (.int .i64 r6.2)]) rfl rfl rfl rfl (.moveX rfl) ?_
    refine RunT.ot0 (x := .lst (List.map eB r6.1)) rfl rfl rfl rfl (.extract rfl rfl) ?_
    refine RunT.ot0 (x := .v (.int .i64 r6.2)) rfl rfl rfl rfl (.extract rfl rfl) ?_
    refine RunT.ot0 (x := .lst (List.map eB r6.1)) rfl rfl rfl rfl (.assignX rfl) ?_
    refine RunT.ot0 (x := .v (.int .i64 r6.2)) rfl rfl rfl rfl (.assignX rfl) ?_
    refine RunT.nil ?_
    refine T.seq ?_
    obtain ⟨o12, E13, HO14⟩ := bs H
    refine T.cut (⟨[(0, .lst (List.map eB a0)), (1, .v (.int .i64 a1)), (2, .v (.int .u8 a2)), (7, .lst (List.map eU8 r4)), (41, .v (.bool o12))], [], 8, []⟩) ?_ ?_
    · have H := E13
      refine T.sub (sub_pick [0, 1, 2, 7, 8, 9] [] (st' := ⟨[(0, .lst (List.map eB a0)), (1, .v (.int .i64 a1)), (2, .v (.int .u8 a2)), (7, .lst (List.map eU8 r4)), (8, .lst (List.map eB r6.1)), (9, .v (.int .i64 r6.2))], [], 0, []⟩) rfl rfl rfl rfl rfl) ?_
      refine T.region ?_
      refine RunT.ot0 (x := .v (.int .i64 r6.2)) rfl rfl rfl rfl (.moveX rfl) ?_
      refine RunT.ot0 (x := .v (.bool (!decide (r6.2 = 0)))) rfl rfl rfl rfl (.bin rfl rfl (fun w => b_neq w) rfl) ?_
      refine RunT.ot0 (x := .v (.bool (!decide (r6.2 = 0)))) rfl rfl rfl rfl (.moveX rfl) ?_
      refine RunT.cases (t := 31) (c := !decide (r6.2 = 0)) rfl (fun g15 => ?_) (fun g15 => ?_)
      · replace H := ct H g15
        refine RunT.xn rfl rfl rfl (bo g15) rfl rfl ?_
        refine RunT.xn rfl rfl rfl (bo g15) rfl rfl ?_
        refine RunT.xn rfl rfl rfl (bo g15) rfl rfl ?_
        refine RunT.xn rfl rfl rfl (bo g15) rfl rfl ?_
        refine RunT.ot0 (x := .v (.bool true)) rfl rfl rfl rfl (.pickT (bo g15) rfl) ?_
        refine RunT.ot0 (x := .v (.bool true)) rfl rfl rfl rfl (.moveX rfl) ?_
        refine RunT.xn rfl rfl rfl rfl rfl rfl ?_
        refine RunT.xn rfl rfl rfl rfl rfl rfl ?_
        refine RunT.xn rfl rfl rfl rfl rfl rfl ?_
        refine RunT.ot0 (x := .v (.bool true)) rfl rfl rfl rfl (.pickT rfl rfl) ?_
        refine RunT.nil ?_
        obtain rfl := si H
        exact (sub_to [] (by decide) rfl rfl (⟨⟨_, rfl, .one .lst⟩, ⟨⟨_, rfl, .one .v⟩, ⟨⟨_, rfl, .one .v⟩, ⟨⟨_, rfl, .one .lst⟩, ⟨⟨_, rfl, .one .v⟩, trivial⟩⟩⟩⟩⟩) (trivial))
      · replace H := cf H g15
        refine RunT.gt0 (x := .lst (List.map eB a0)) rfl rfl rfl (bo g15) rfl rfl (.moveX rfl) ?_
        refine RunT.gt0 (x := .lst (List.map eB r6.1)) rfl rfl rfl (bo g15) rfl rfl (.moveX rfl) ?_
        obtain ⟨r16, h17, H⟩ := bs H
        refine RunT.gt0 (x := .v (.bool r16)) rfl rfl rfl (bo g15) rfl rfl (.callp (tree_Same_pc false k a0 r6.1 r16 h17) rfl ⟨(.one .lst), (.one .lst), trivial⟩ rfl rfl rfl) ?_
        refine RunT.gt0 (x := .v (.bool (!r16))) rfl rfl rfl (bo g15) rfl rfl (.un rfl (fun w => u_not w) rfl) ?_
        refine RunT.ot0 (x := .v (.bool (!r16))) rfl rfl rfl rfl (.pickF (bo g15) rfl) ?_
        refine RunT.ot0 (x := .v (.bool (!r16))) rfl rfl rfl rfl (.moveX rfl) ?_
        refine RunT.cases (t := 37) (c := !r16) rfl (fun g18 => ?_) (fun g18 => ?_)
        · replace H := ct H g18
          refine RunT.xn rfl rfl rfl (bo g18) rfl rfl ?_
          refine RunT.xn rfl rfl rfl (bo g18) rfl rfl ?_
          refine RunT.xn rfl rfl rfl (bo g18) rfl rfl ?_
          refine RunT.ot0 (x := .v (.bool true)) rfl rfl rfl rfl (.pickT (bo g18) rfl) ?_
          refine RunT.nil ?_
          obtain rfl := si H
          exact (sub_to [] (by decide) rfl rfl (⟨⟨_, rfl, .one .lst⟩, ⟨⟨_, rfl, .one .v⟩, ⟨⟨_, rfl, .one .v⟩, ⟨⟨_, rfl, .one .lst⟩, ⟨⟨_, rfl, .one .v⟩, trivial⟩⟩⟩⟩⟩) (trivial))
        · replace H := cf H g18
          refine RunT.gt0 (x := .lst (List.map eU8 r4)) rfl rfl rfl (bo g18) rfl rfl (.moveX rfl) ?_
          refine RunT.gt0 (x := .v (.int .i64 (r4.length : Int))) rfl rfl rfl (bo g18) rfl rfl (.lenLm Try.underlying35 rfl rfl) ?_
          refine RunT.gt0 (x := .v (.bool (decide ((r4.length : Int) < 4)))) rfl rfl rfl (bo g18) rfl rfl (.bin rfl rfl (fun w => b_lss w) rfl) ?_
          refine RunT.ot0 (x := .v (.bool (decide ((r4.length : Int) < 4)))) rfl rfl rfl rfl (.pickF (bo g18) rfl) ?_
          refine RunT.nil ?_
          obtain rfl := si H
          exact (sub_to [] (by decide) rfl rfl (⟨⟨_, rfl, .one .lst⟩, ⟨⟨_, rfl, .one .v⟩, ⟨⟨_, rfl, .one .v⟩, ⟨⟨_, rfl, .one .lst⟩, ⟨⟨_, rfl, .one .v⟩, trivial⟩⟩⟩⟩⟩) (trivial))
    · have H := HO14
      refine T.cond2 (t := o12) rfl (fun c19 => ?_) (fun c19 => ?_)
      · replace H := ct H c19
        refine T.seq ?_
        refine T.sub (sub_pick [] [] (st' := ⟨[], [], 8, []⟩) rfl rfl rfl rfl rfl) ?_
        refine T.region ?_
        refine RunT.ot0 (x := .v (.bool false)) rfl rfl rfl rfl (.assignX rfl) ?_
        refine RunT.nil ?_
        obtain rfl := si H
        refine T.sub (sub_to (st' := ⟨[(6, .v (.bool false))], [], 8, []⟩) [] (by decide) rfl rfl (⟨⟨_, rfl, .one .v⟩, trivial⟩) (trivial)) ?_
        refine T.ret ?_
        exact RetOk.same [.v (.bool false)] ⟨rfl, trivial⟩ rfl rfl rfl
      · replace H := cf H c19
        refine T.skip ?_
        refine T.seq ?_
        refine T.region ?_
        refine RunT.ot0 (x := .lst (List.map eU8 r4)) rfl rfl rfl rfl (.moveX rfl) ?_
        refine RunT.ot0 (x := .lst (List.map eU8 r4)) rfl rfl rfl rfl (.moveX rfl) ?_
        refine RunT.ot0 (x := .v (.int .i64 (r4.length : Int))) rfl rfl rfl rfl (.lenLm Try.underlying35 rfl rfl) ?_
        refine RunT.ot0 (x := .v (.int .i64 (wr ((r4.length : Int) - 1)))) rfl rfl rfl rfl (.bin rfl rfl (fun w => b_subw w) rfl) ?_
        obtain ⟨y20, h21, H⟩ := bs H
        refine RunT.ot0 (x := .lst (List.map eU8 y20)) rfl rfl rfl rfl (.sliceLm sl35 rfl enc_U8 rfl ⟨_, rfl⟩ rfl h21) ?_
        obtain ⟨r22, h23, H⟩ := bs H
        refine RunT.ot0 (x := .tup [.lst (List.map eB r22.1), .v (.int .i64 r22.2)]) rfl rfl rfl rfl (.callp (PC.frozen (tree_From_pc false k y20 r22 h23)) rfl ⟨(.one .lst), trivial⟩ rfl rfl rfl) ?_
        refine RunT.ot0 (x := .tup [.lst (List.map eB r22.1), .v (.int .i64 r22.2)]) rfl rfl rfl rfl (.moveX rfl) ?_
        refine RunT.ot0 (x := .lst (List.map eB r22.1)) rfl rfl rfl rfl (.extract rfl rfl) ?_
        refine RunT.ot0 (x := .v (.int .i64 r22.2)) rfl rfl rfl rfl (.extract rfl rfl) ?_
        refine RunT.ot0 (x := .lst (List.map eB r22.1)) rfl rfl rfl rfl (.assignX rfl) ?_
        refine RunT.ot0 (x := .v (.int .i64 r22.2)) rfl rfl rfl rfl (.assignX rfl) ?_
        refine RunT.nil ?_
        refine T.seq ?_
        refine T.region ?_
        refine RunT.ot1 (x := .own 8 0 ((([] : List Int)).length)) (p0 := (8, some (.arr false 1 (List.map eU8 ([] : List Int))))) (n' := 16) rfl rfl rfl rfl (.bslicem (d := false) (l := ([] : List Int)) (f := eU8) sl35 rfl rfl rfl enc_U8 rfl) rfl ?_
        refine RunT.ot0 (x := .lst (List.map eU8 r4)) rfl rfl rfl rfl (.moveX rfl) ?_
        obtain ⟨h24, H⟩ := gs H
        refine RunT.ot2 (x := .own 16 0 ((([] : List Int) ++ r4).length)) (p0 := (16, some (.arr false 1 (List.map eU8 (([] : List Int) ++ r4))))) (p1 := (8, none)) (n' := 24) rfl rfl rfl rfl (.appOn (d := false) (l := ([] : List Int)) (m := r4) (f := eU8) rfl sl35 rfl rfl rfl (.lstm Try.underlying35 enc_U8) rfl h24) rfl ?_
        refine RunT.ot1 (x := .own 24 0 (([0]).length)) (p0 := (24, some (.arr false 1 (List.map eU8 [0])))) (n' := 32) rfl rfl rfl rfl (.bslicem (d := false) (l := [0]) (f := eU8) sl35 rfl rfl rfl enc_U8 rfl) rfl ?_
        obtain ⟨h25, H⟩ := gs H
        refine RunT.ot2 (x := .own 32 0 (((([] : List Int) ++ r4) ++ [0]).length)) (p0 := (32, some (.arr false 1 (List.map eU8 ((([] : List Int) ++ r4) ++ [0]))))) (p1 := (16, none)) (n' := 40) rfl rfl rfl rfl (.appOn (d := false) (l := ([] : List Int) ++ r4) (m := [0]) (f := eU8) rfl sl35 rfl rfl rfl (.ownn Try.underlying35 rfl rfl (fun h => by cases h)) rfl h25) rfl ?_
        obtain ⟨r26, h27, H⟩ := bs H
        refine RunT.ot0 (x := .tup [.lst (List.map eB r26.1), .v (.int .i64 r26.2)]) rfl rfl rfl rfl (.callp (PC.frozen (tree_From_pc false k ((([] : List Int) ++ r4) ++ [0]) r26 h27)) rfl ⟨(.one (.all rfl (List.length_map _).symm)), trivial⟩ rfl rfl rfl) ?_
        refine RunT.ot0 (x := .tup [.lst (List.map eB r26.1), .v (.int .i64 r26.2)]) rfl rfl rfl rfl (.moveX rfl) ?_
        refine RunT.ot0 (x := .lst (List.map eB r26.1)) rfl rfl rfl rfl (.extract rfl rfl) ?_
        refine RunT.ot0 (x := .v (.int .i64 r26.2)) rfl rfl rfl rfl (.extract rfl rfl) ?_
        refine RunT.ot0 (x := .lst (List.map eB r26.1)) rfl rfl rfl rfl (.assignX rfl) ?_
        refine RunT.ot0 (x := .v (.int .i64 r26.2)) rfl rfl rfl rfl (.assignX rfl) ?_
        refine RunT.nil ?_
        refine T.seq ?_
        refine T.sub (sub_pick [0, 1, 2, 7, 11, 13] [] (st' := ⟨[(0, .lst (List.map eB a0)), (1, .v (.int .i64 a1)), (2, .v (.int .u8 a2)), (7, .lst (List.map eU8 r4)), (11, .v (.int .i64 r22.2)), (13, .v (.int .i64 r26.2))], [], 40, []⟩) rfl rfl rfl rfl rfl) ?_
        refine T.region ?_
        refine RunT.ot0 (x := .v (.int .i64 a1)) rfl rfl rfl rfl (.moveX rfl) ?_
        refine RunT.ot0 (x := .v (.int .u64 (IntKind.u64.wrap a1))) rfl rfl rfl rfl (.conv rfl (fun w => c_int w ⟨_, Try.underlying3⟩ Try.underlying31) rfl) ?_
        refine RunT.ot0 (x := .lst (List.map eU8 r4)) rfl rfl rfl rfl (.moveX rfl) ?_
        refine RunT.ot0 (x := .v (.int .i64 (r4.length : Int))) rfl rfl rfl rfl (.lenLm Try.underlying35 rfl rfl) ?_
        refine RunT.ot0 (x := .v (.int .u64 (IntKind.u64.wrap (r4.length : Int)))) rfl rfl rfl rfl (.conv rfl (fun w => c_int w ⟨_, Try.underlying3⟩ Try.underlying31) rfl) ?_
        obtain ⟨h28, H⟩ := gs H
        refine RunT.ot0 (x := .v (.int .u64 ((IntKind.u64.wrap a1).tmod (IntKind.u64.wrap (r4.length : Int))))) rfl rfl rfl rfl (.bin rfl rfl (fun w => b_rem w (of_decide_eq_true h28)) rfl) ?_
        refine RunT.ot0 (x := .v (.int .u64 ((IntKind.u64.wrap a1).tmod (IntKind.u64.wrap (r4.length : Int))))) rfl rfl rfl rfl (.assignX rfl) ?_
        refine RunT.nil ?_
        refine T.seq ?_
        refine T.region ?_
        refine RunT.ot1 (x := .own 40 0 ((([] : List Int)).length)) (p0 := (40, some (.arr false 1 (List.map eU8 ([] : List Int))))) (n' := 48) rfl rfl rfl rfl (.bslicem (d := false) (l := ([] : List Int)) (f := eU8) sl35 rfl rfl rfl enc_U8 rfl) rfl ?_
        refine RunT.ot0 (x := .lst (List.map eU8 r4)) rfl rfl rfl rfl (.moveX rfl) ?_
        obtain ⟨h29, H⟩ := gs H
        refine RunT.ot2 (x := .own 48 0 ((([] : List Int) ++ r4).length)) (p0 := (48, some (.arr false 1 (List.map eU8 (([] : List Int) ++ r4))))) (p1 := (40, none)) (n' := 56) rfl rfl rfl rfl (.appOn (d := false) (l := ([] : List Int)) (m := r4) (f := eU8) rfl sl35 rfl rfl rfl (.lstm Try.underlying35 enc_U8) rfl h29) rfl ?_
        refine RunT.ot0 (x := .own 48 0 ((([] : List Int) ++ r4).length)) rfl rfl rfl rfl (.assignX rfl) ?_
        refine RunT.nil ?_
        refine T.seq ?_
        refine T.region ?_
        refine RunT.ot0 (x := .own 48 0 ((([] : List Int) ++ r4).length)) rfl rfl rfl rfl (.moveX rfl) ?_
        refine RunT.ot0 (x := .v (.int .u64 ((IntKind.u64.wrap a1).tmod (IntKind.u64.wrap (r4.length : Int))))) rfl rfl rfl rfl (.moveX rfl) ?_
        refine RunT.ot0 (x := .own 48 0 ((([] : List Int) ++ r4).length)) rfl rfl rfl rfl (.moveX rfl) ?_
        refine RunT.ot0 (x := .v (.int .u64 ((IntKind.u64.wrap a1).tmod (IntKind.u64.wrap (r4.length : Int))))) rfl rfl rfl rfl (.moveX rfl) ?_
        obtain ⟨y30, h31, H⟩ := bs H
        refine RunT.ot0 (x := .eptr 48 ((IntKind.u64.wrap a1).tmod (IntKind.u64.wrap (r4.length : Int))).toNat 0) rfl rfl rfl rfl (.idxOn rfl sl35 rfl rfl rfl h31) ?_
        refine RunT.ot0 (x := .v (.int .u8 y30)) rfl rfl rfl rfl (.loadEm ty5 rfl rfl (ixs h31).2.1 rfl) ?_
        refine RunT.ot0 (x := .v (.int .u8 a2)) rfl rfl rfl rfl (.moveX rfl) ?_
        refine RunT.ot0 (x := .v (.int .u8 (IntKind.u8.wrap (((BitVec.ofInt IntKind.u8.bits y30 ^^^ BitVec.ofInt IntKind.u8.bits a2).toNat : Nat) : Int)))) rfl rfl rfl rfl (.bin rfl rfl (fun w => b_xor' w rfl) rfl) ?_
        obtain ⟨y32, h33, H⟩ := bs H
        refine RunT.ot0 (x := .eptr 48 ((IntKind.u64.wrap a1).tmod (IntKind.u64.wrap (r4.length : Int))).toNat 0) rfl rfl rfl rfl (.idxOn rfl sl35 rfl rfl rfl h33) ?_
        refine RunT.on1 (x := .junk) (p0 := (48, some (.arr false 1 (List.map eU8 ((([] : List Int) ++ r4).set ((IntKind.u64.wrap a1).tmod (IntKind.u64.wrap (r4.length : Int))).toNat (IntKind.u8.wrap (((BitVec.ofInt IntKind.u8.bits y30 ^^^ BitVec.ofInt IntKind.u8.bits a2).toNat : Nat) : Int))))))) (n' := 64) rfl rfl rfl (.storeEm (z' := IntKind.u8.wrap (((BitVec.ofInt IntKind.u8.bits y30 ^^^ BitVec.ofInt IntKind.u8.bits a2).toNat : Nat) : Int)) ty5 rfl rfl rfl rfl rfl (ixs h33).2.1 rfl (fun _ => rfl) rfl) rfl ?_
        refine RunT.nil ?_
        refine T.seq ?_
        refine T.sub (sub_pick [0, 2, 11, 13, 15] [48] (st' := ⟨[(0, .lst (List.map eB a0)), (2, .v (.int .u8 a2)), (11, .v (.int .i64 r22.2)), (13, .v (.int .i64 r26.2)), (15, .own 48 0 ((([] : List Int) ++ r4).length))], [(48, some (.arr false 1 (List.map eU8 ((([] : List Int) ++ r4).set ((IntKind.u64.wrap a1).tmod (IntKind.u64.wrap (r4.length : Int))).toNat (IntKind.u8.wrap (((BitVec.ofInt IntKind.u8.bits y30 ^^^ BitVec.ofInt IntKind.u8.bits a2).toNat : Nat) : Int))))))], 64, []⟩) rfl rfl rfl rfl rfl) ?_
        refine T.region ?_
        refine RunT.ot0 (x := .own 48 0 ((([] : List Int) ++ r4).length)) rfl rfl rfl rfl (.moveX rfl) ?_
        obtain ⟨r34, h35, H⟩ := bs H
        refine RunT.ot0 (x := .tup [.lst (List.map eB r34.1), .v (.int .i64 r34.2)]) rfl rfl rfl rfl (.callp (PC.frozen (tree_From_pc false k ((([] : List Int) ++ r4).set ((IntKind.u64.wrap a1).tmod (IntKind.u64.wrap (r4.length : Int))).toNat (IntKind.u8.wrap (((BitVec.ofInt IntKind.u8.bits y30 ^^^ BitVec.ofInt IntKind.u8.bits a2).toNat : Nat) : Int))) r34 h35)) rfl ⟨(.one (.all rfl ((List.length_set ..).symm.trans (List.length_map _).symm))), trivial⟩ rfl rfl rfl) ?_
        refine RunT.ot0 (x := .tup [.lst (List.map eB r34.1), .v (.int .i64 r34.2)]) rfl rfl rfl rfl (.moveX rfl) ?_
        refine RunT.ot0 (x := .lst (List.map eB r34.1)) rfl rfl rfl rfl (.extract rfl rfl) ?_
        refine RunT.ot0 (x := .v (.int .i64 r34.2)) rfl rfl rfl rfl (.extract rfl rfl) ?_
        refine RunT.ot0 (x := .lst (List.map eB r34.1)) rfl rfl rfl rfl (.assignX rfl) ?_
        refine RunT.ot0 (x := .v (.int .i64 r34.2)) rfl rfl rfl rfl (.assignX rfl) ?_
        refine RunT.nil ?_
        refine T.seq ?_
        refine T.region ?_
        obtain ⟨r36, h37, H⟩ := bs H
        refine RunT.ot0 (x := .v (.bool r36)) rfl rfl rfl rfl (.callp (law16_told_pc false k  r36 h37) rfl trivial rfl rfl rfl) ?_
        refine RunT.ot0 (x := .v (.bool r36)) rfl rfl rfl rfl (.moveX rfl) ?_
        refine RunT.cases (t := 84) (c := r36) rfl (fun g38 => ?_) (fun g38 => ?_)
        · replace H := ct H g38
          refine RunT.gt0 (x := .v (.int .i64 r22.2)) rfl rfl rfl (bo g38) rfl rfl (.moveX rfl) ?_
          refine RunT.gt0 (x := .v (.bool (decide (r22.2 = 10)))) rfl rfl rfl (bo g38) rfl rfl (.bin rfl rfl (fun w => b_eql w) rfl) ?_
          refine RunT.ot0 (x := .v (.bool (decide (r22.2 = 10)))) rfl rfl rfl rfl (.pickT (bo g38) rfl) ?_
          refine RunT.ot0 (x := .v (.bool (decide (r22.2 = 10)))) rfl rfl rfl rfl (.moveX rfl) ?_
          refine RunT.cases (t := 88) (c := decide (r22.2 = 10)) rfl (fun g39 => ?_) (fun g39 => ?_)
          · replace H := ct H g39
            refine RunT.gt0 (x := .v (.int .i64 r26.2)) rfl rfl rfl (bo g39) rfl rfl (.moveX rfl) ?_
            refine RunT.gt0 (x := .v (.bool (decide (r26.2 = 10)))) rfl rfl rfl (bo g39) rfl rfl (.bin rfl rfl (fun w => b_eql w) rfl) ?_
            refine RunT.ot0 (x := .v (.bool (decide (r26.2 = 10)))) rfl rfl rfl rfl (.pickT (bo g39) rfl) ?_
            refine RunT.ot0 (x := .v (.bool (decide (r26.2 = 10)))) rfl rfl rfl rfl (.moveX rfl) ?_
            refine RunT.cases (t := 92) (c := decide (r26.2 = 10)) rfl (fun g40 => ?_) (fun g40 => ?_)
            · replace H := ct H g40
              refine RunT.gt0 (x := .v (.int .i64 r34.2)) rfl rfl rfl (bo g40) rfl rfl (.moveX rfl) ?_
              refine RunT.gt0 (x := .v (.bool (decide (r34.2 = 0)))) rfl rfl rfl (bo g40) rfl rfl (.bin rfl rfl (fun w => b_eql w) rfl) ?_
              refine RunT.gt0 (x := .v (.bool (decide (r34.2 = 0)))) rfl rfl rfl (bo g40) rfl rfl (.moveX rfl) ?_
              refine RunT.cases (t := 95) (c := decide (r34.2 = 0)) rfl (fun g41 => ?_) (fun g41 => ?_)
              · replace H := ct H g41
                refine RunT.xn rfl rfl rfl (bo g41) rfl rfl ?_
                refine RunT.xn rfl rfl rfl (bo g41) rfl rfl ?_
                refine RunT.gt0 (x := .v (.bool true)) rfl rfl rfl (bo g40) rfl rfl (.pickT (bo g41) rfl) ?_
                refine RunT.ot0 (x := .v (.bool true)) rfl rfl rfl rfl (.pickT (bo g40) rfl) ?_
                refine RunT.ot0 (x := .v (.bool true)) rfl rfl rfl rfl (.moveX rfl) ?_
                refine RunT.gt0 (x := .v (.int .i64 r34.2)) rfl rfl rfl rfl rfl rfl (.moveX rfl) ?_
                refine RunT.gt0 (x := .v (.bool (!decide (r34.2 = 0)))) rfl rfl rfl rfl rfl rfl (.bin rfl rfl (fun w => b_neq w) rfl) ?_
                refine RunT.gt0 (x := .v (.bool (!decide (r34.2 = 0)))) rfl rfl rfl rfl rfl rfl (.moveX rfl) ?_
                refine RunT.cases (t := 103) (c := !decide (r34.2 = 0)) rfl (fun g42 => ?_) (fun g42 => ?_)
                · replace H := ct H g42
                  refine RunT.xn rfl rfl rfl (bo g42) rfl rfl ?_
                  refine RunT.xn rfl rfl rfl (bo g42) rfl rfl ?_
                  refine RunT.xn rfl rfl rfl (bo g42) rfl rfl ?_
                  refine RunT.xn rfl rfl rfl (bo g42) rfl rfl ?_
                  refine RunT.xn rfl rfl rfl (bo g42) rfl rfl ?_
                  refine RunT.xn rfl rfl rfl (bo g42) rfl rfl ?_
                  refine RunT.gt0 (x := .v (.bool true)) rfl rfl rfl rfl rfl rfl (.pickT (bo g42) rfl) ?_
                  refine RunT.ot0 (x := .v (.bool true)) rfl rfl rfl rfl (.pickT rfl rfl) ?_
                  refine RunT.ot0 (x := .v (.bool true)) rfl rfl rfl rfl (.moveX rfl) ?_
                  refine RunT.gt0 (x := .v (.int .u8 a2)) rfl rfl rfl rfl rfl rfl (.moveX rfl) ?_
                  refine RunT.gt0 (x := .v (.bool (!decide (a2 = 0)))) rfl rfl rfl rfl rfl rfl (.bin rfl rfl (fun w => b_neq w) rfl) ?_
                  refine RunT.gt0 (x := .v (.bool (!decide (a2 = 0)))) rfl rfl rfl rfl rfl rfl (.moveX rfl) ?_
                  refine RunT.cases (t := 115) (c := !decide (a2 = 0)) rfl (fun g43 => ?_) (fun g43 => ?_)
                  · replace H := ct H g43
                    refine RunT.xn rfl rfl rfl (bo g43) rfl rfl ?_
                    refine RunT.xn rfl rfl rfl (bo g43) rfl rfl ?_
                    refine RunT.gt0 (x := .v (.bool true)) rfl rfl rfl rfl rfl rfl (.pickT (bo g43) rfl) ?_
                    refine RunT.ot0 (x := .v (.bool true)) rfl rfl rfl rfl (.pickT rfl rfl) ?_
                    refine RunT.ot0 (x := .v (.bool true)) rfl rfl rfl rfl (.assignX rfl) ?_
                    refine RunT.nil ?_
                    obtain rfl := si H
                    refine T.sub (sub_to (st' := ⟨[(6, .v (.bool true))], [], 8, []⟩) [] (by decide) rfl rfl (⟨⟨_, rfl, .one .v⟩, trivial⟩) (trivial)) ?_
                    refine T.ret ?_
                    exact RetOk.same [.v (.bool true)] ⟨rfl, trivial⟩ rfl rfl rfl
                  · replace H := cf H g43
                    refine RunT.gt0 (x := .v (.int .i64 r34.2)) rfl rfl rfl (bo g43) rfl rfl (.moveX rfl) ?_
                    refine RunT.gt0 (x := .v (.bool (decide (r34.2 = 0)))) rfl rfl rfl (bo g43) rfl rfl (.bin rfl rfl (fun w => b_eql w) rfl) ?_
                    refine RunT.gt0 (x := .v (.bool (decide (r34.2 = 0)))) rfl rfl rfl rfl rfl rfl (.pickF (bo g43) rfl) ?_
                    refine RunT.ot0 (x := .v (.bool (decide (r34.2 = 0)))) rfl rfl rfl rfl (.pickT rfl rfl) ?_
                    refine RunT.ot0 (x := .v (.bool (decide (r34.2 = 0)))) rfl rfl rfl rfl (.assignX rfl) ?_
                    refine RunT.nil ?_
                    obtain rfl := si H
                    refine T.sub (sub_to (st' := ⟨[(6, .v (.bool (decide (r34.2 = 0))))], [], 8, []⟩) [] (by decide) rfl rfl (⟨⟨_, rfl, .one .v⟩, trivial⟩) (trivial)) ?_
                    refine T.ret ?_
                    exact RetOk.same [.v (.bool (decide (r34.2 = 0)))] ⟨rfl, trivial⟩ rfl rfl rfl
                · replace H := cf H g42
                  refine RunT.gt0 (x := .lst (List.map eB r34.1)) rfl rfl rfl (bo g42) rfl rfl (.moveX rfl) ?_
                  refine RunT.gt0 (x := .lst (List.map eB a0)) rfl rfl rfl (bo g42) rfl rfl (.moveX rfl) ?_
                  obtain ⟨r44, h45, H⟩ := bs H
                  refine RunT.gt0 (x := .v (.bool r44)) rfl rfl rfl (bo g42) rfl rfl (.callp (tree_Same_pc false k r34.1 a0 r44 h45) rfl ⟨(.one .lst), (.one .lst), trivial⟩ rfl rfl rfl) ?_
                  refine RunT.gt0 (x := .v (.int .u8 a2)) rfl rfl rfl (bo g42) rfl rfl (.moveX rfl) ?_
                  refine RunT.gt0 (x := .v (.bool (decide (a2 = 0)))) rfl rfl rfl (bo g42) rfl rfl (.bin rfl rfl (fun w => b_eql w) rfl) ?_
                  refine RunT.gt0 (x := .v (.bool (r44 == (decide (a2 = 0))))) rfl rfl rfl (bo g42) rfl rfl (.bin rfl rfl (fun w => b_eqB w Try.underlying4) rfl) ?_
                  refine RunT.gt0 (x := .v (.bool (r44 == (decide (a2 = 0))))) rfl rfl rfl rfl rfl rfl (.pickF (bo g42) rfl) ?_
                  refine RunT.ot0 (x := .v (.bool (r44 == (decide (a2 = 0))))) rfl rfl rfl rfl (.pickT rfl rfl) ?_
                  refine RunT.ot0 (x := .v (.bool (r44 == (decide (a2 = 0))))) rfl rfl rfl rfl (.moveX rfl) ?_
                  refine RunT.cases (t := 112) (c := r44 == (decide (a2 = 0))) rfl (fun g46 => ?_) (fun g46 => ?_)
                  · replace H := ct H g46
                    refine RunT.gt0 (x := .v (.int .u8 a2)) rfl rfl rfl (bo g46) rfl rfl (.moveX rfl) ?_
                    refine RunT.gt0 (x := .v (.bool (!decide (a2 = 0)))) rfl rfl rfl (bo g46) rfl rfl (.bin rfl rfl (fun w => b_neq w) rfl) ?_
                    refine RunT.gt0 (x := .v (.bool (!decide (a2 = 0)))) rfl rfl rfl (bo g46) rfl rfl (.moveX rfl) ?_
                    refine RunT.cases (t := 115) (c := !decide (a2 = 0)) rfl (fun g47 => ?_) (fun g47 => ?_)
                    · replace H := ct H g47
                      refine RunT.xn rfl rfl rfl (bo g47) rfl rfl ?_
                      refine RunT.xn rfl rfl rfl (bo g47) rfl rfl ?_
                      refine RunT.gt0 (x := .v (.bool true)) rfl rfl rfl (bo g46) rfl rfl (.pickT (bo g47) rfl) ?_
                      refine RunT.ot0 (x := .v (.bool true)) rfl rfl rfl rfl (.pickT (bo g46) rfl) ?_
                      refine RunT.ot0 (x := .v (.bool true)) rfl rfl rfl rfl (.assignX rfl) ?_
                      refine RunT.nil ?_
                      obtain rfl := si H
                      refine T.sub (sub_to (st' := ⟨[(6, .v (.bool true))], [], 8, []⟩) [] (by decide) rfl rfl (⟨⟨_, rfl, .one .v⟩, trivial⟩) (trivial)) ?_
                      refine T.ret ?_
                      exact RetOk.same [.v (.bool true)] ⟨rfl, trivial⟩ rfl rfl rfl
                    · replace H := cf H g47
                      refine RunT.gt0 (x := .v (.int .i64 r34.2)) rfl rfl rfl (bo g47) rfl rfl (.moveX rfl) ?_
                      refine RunT.gt0 (x := .v (.bool (decide (r34.2 = 0)))) rfl rfl rfl (bo g47) rfl rfl (.bin rfl rfl (fun w => b_eql w) rfl) ?_
                      refine RunT.gt0 (x := .v (.bool (decide (r34.2 = 0)))) rfl rfl rfl (bo g46) rfl rfl (.pickF (bo g47) rfl) ?_
                      refine RunT.ot0 (x := .v (.bool (decide (r34.2 = 0)))) rfl rfl rfl rfl (.pickT (bo g46) rfl) ?_
                      refine RunT.ot0 (x := .v (.bool (decide (r34.2 = 0)))) rfl rfl rfl rfl (.assignX rfl) ?_
                      refine RunT.nil ?_
                      obtain rfl := si H
                      refine T.sub (sub_to (st' := ⟨[(6, .v (.bool (decide (r34.2 = 0))))], [], 8, []⟩) [] (by decide) rfl rfl (⟨⟨_, rfl, .one .v⟩, trivial⟩) (trivial)) ?_
                      refine T.ret ?_
                      exact RetOk.same [.v (.bool (decide (r34.2 = 0)))] ⟨rfl, trivial⟩ rfl rfl rfl
                  · replace H := cf H g46
                    refine RunT.xn rfl rfl rfl (bo g46) rfl rfl ?_
                    refine RunT.xn rfl rfl rfl (bo g46) rfl rfl ?_
                    refine RunT.xn rfl rfl rfl (bo g46) rfl rfl ?_
                    refine RunT.xu rfl rfl rfl rfl rfl rfl ?_
                    refine RunT.xu rfl rfl rfl rfl rfl rfl ?_
                    refine RunT.xn rfl rfl rfl (bo g46) rfl rfl ?_
                    refine RunT.ot0 (x := .v (.bool false)) rfl rfl rfl rfl (.pickF (bo g46) rfl) ?_
                    refine RunT.ot0 (x := .v (.bool false)) rfl rfl rfl rfl (.assignX rfl) ?_
                    refine RunT.nil ?_
                    obtain rfl := si H
                    refine T.sub (sub_to (st' := ⟨[(6, .v (.bool false))], [], 8, []⟩) [] (by decide) rfl rfl (⟨⟨_, rfl, .one .v⟩, trivial⟩) (trivial)) ?_
                    refine T.ret ?_
                    exact RetOk.same [.v (.bool false)] ⟨rfl, trivial⟩ rfl rfl rfl
              · replace H := cf H g41
                refine RunT.gt0 (x := .v (.int .i64 r34.2)) rfl rfl rfl (bo g41) rfl rfl (.moveX rfl) ?_
                refine RunT.gt0 (x := .v (.bool (decide (r34.2 = 10)))) rfl rfl rfl (bo g41) rfl rfl (.bin rfl rfl (fun w => b_eql w) rfl) ?_
                refine RunT.gt0 (x := .v (.bool (decide (r34.2 = 10)))) rfl rfl rfl (bo g40) rfl rfl (.pickF (bo g41) rfl) ?_
                refine RunT.ot0 (x := .v (.bool (decide (r34.2 = 10)))) rfl rfl rfl rfl (.pickT (bo g40) rfl) ?_
                refine RunT.ot0 (x := .v (.bool (decide (r34.2 = 10)))) rfl rfl rfl rfl (.moveX rfl) ?_
                refine RunT.cases (t := 100) (c := decide (r34.2 = 10)) rfl (fun g48 => ?_) (fun g48 => ?_)
                · replace H := ct H g48
                  refine RunT.gt0 (x := .v (.int .i64 r34.2)) rfl rfl rfl (bo g48) rfl rfl (.moveX rfl) ?_
                  refine RunT.gt0 (x := .v (.bool (!decide (r34.2 = 0)))) rfl rfl rfl (bo g48) rfl rfl (.bin rfl rfl (fun w => b_neq w) rfl) ?_
                  refine RunT.gt0 (x := .v (.bool (!decide (r34.2 = 0)))) rfl rfl rfl (bo g48) rfl rfl (.moveX rfl) ?_
                  refine RunT.cases (t := 103) (c := !decide (r34.2 = 0)) rfl (fun g49 => ?_) (fun g49 => ?_)
                  · replace H := ct H g49
                    refine RunT.xn rfl rfl rfl (bo g49) rfl rfl ?_
                    refine RunT.xn rfl rfl rfl (bo g49) rfl rfl ?_
                    refine RunT.xn rfl rfl rfl (bo g49) rfl rfl ?_
                    refine RunT.xn rfl rfl rfl (bo g49) rfl rfl ?_
                    refine RunT.xn rfl rfl rfl (bo g49) rfl rfl ?_
                    refine RunT.xn rfl rfl rfl (bo g49) rfl rfl ?_
                    refine RunT.gt0 (x := .v (.bool true)) rfl rfl rfl (bo g48) rfl rfl (.pickT (bo g49) rfl) ?_
                    refine RunT.ot0 (x := .v (.bool true)) rfl rfl rfl rfl (.pickT (bo g48) rfl) ?_
                    refine RunT.ot0 (x := .v (.bool true)) rfl rfl rfl rfl (.moveX rfl) ?_
                    refine RunT.gt0 (x := .v (.int .u8 a2)) rfl rfl rfl rfl rfl rfl (.moveX rfl) ?_
                    refine RunT.gt0 (x := .v (.bool (!decide (a2 = 0)))) rfl rfl rfl rfl rfl rfl (.bin rfl rfl (fun w => b_neq w) rfl) ?_
                    refine RunT.gt0 (x := .v (.bool (!decide (a2 = 0)))) rfl rfl rfl rfl rfl rfl (.moveX rfl) ?_
                    refine RunT.cases (t := 115) (c := !decide (a2 = 0)) rfl (fun g50 => ?_) (fun g50 => ?_)
                    · replace H := ct H g50
                      refine RunT.xn rfl rfl rfl (bo g50) rfl rfl ?_
                      refine RunT.xn rfl rfl rfl (bo g50) rfl rfl ?_
                      refine RunT.gt0 (x := .v (.bool true)) rfl rfl rfl rfl rfl rfl (.pickT (bo g50) rfl) ?_
                      refine RunT.ot0 (x := .v (.bool true)) rfl rfl rfl rfl (.pickT rfl rfl) ?_
                      refine RunT.ot0 (x := .v (.bool true)) rfl rfl rfl rfl (.assignX rfl) ?_
                      refine RunT.nil ?_
                      obtain rfl := si H
                      refine T.sub (sub_to (st' := ⟨[(6, .v (.bool true))], [], 8, []⟩) [] (by decide) rfl rfl (⟨⟨_, rfl, .one .v⟩, trivial⟩) (trivial)) ?_
                      refine T.ret ?_
                      exact RetOk.same [.v (.bool true)] ⟨rfl, trivial⟩ rfl rfl rfl
                    · replace H := cf H g50
                      refine RunT.gt0 (x := .v (.int .i64 r34.2)) rfl rfl rfl (bo g50) rfl rfl (.moveX rfl) ?_
                      refine RunT.gt0 (x := .v (.bool (decide (r34.2 = 0)))) rfl rfl rfl (bo g50) rfl rfl (.bin rfl rfl (fun w => b_eql w) rfl) ?_
                      refine RunT.gt0 (x := .v (.bool (decide (r34.2 = 0)))) rfl rfl rfl rfl rfl rfl (.pickF (bo g50) rfl) ?_
                      refine RunT.ot0 (x := .v (.bool (decide (r34.2 = 0)))) rfl rfl rfl rfl (.pickT rfl rfl) ?_
                      refine RunT.ot0 (x := .v (.bool (decide (r34.2 = 0)))) rfl rfl rfl rfl (.assignX rfl) ?_
                      refine RunT.nil ?_
                      obtain rfl := si H
                      refine T.sub (sub_to (st' := ⟨[(6, .v (.bool (decide (r34.2 = 0))))], [], 8, []⟩) [] (by decide) rfl rfl (⟨⟨_, rfl, .one .v⟩, trivial⟩) (trivial)) ?_
                      refine T.ret ?_
                      exact RetOk.same [.v (.bool (decide (r34.2 = 0)))] ⟨rfl, trivial⟩ rfl rfl rfl
                  · replace H := cf H g49
                    refine RunT.gt0 (x := .lst (List.map eB r34.1)) rfl rfl rfl (bo g49) rfl rfl (.moveX rfl) ?_
                    refine RunT.gt0 (x := .lst (List.map eB a0)) rfl rfl rfl (bo g49) rfl rfl (.moveX rfl) ?_
                    obtain ⟨r51, h52, H⟩ := bs H
                    refine RunT.gt0 (x := .v (.bool r51)) rfl rfl rfl (bo g49) rfl rfl (.callp (tree_Same_pc false k r34.1 a0 r51 h52) rfl ⟨(.one .lst), (.one .lst), trivial⟩ rfl rfl rfl) ?_
                    refine RunT.gt0 (x := .v (.int .u8 a2)) rfl rfl rfl (bo g49) rfl rfl (.moveX rfl) ?_
                    refine RunT.gt0 (x := .v (.bool (decide (a2 = 0)))) rfl rfl rfl (bo g49) rfl rfl (.bin rfl rfl (fun w => b_eql w) rfl) ?_
                    refine RunT.gt0 (x := .v (.bool (r51 == (decide (a2 = 0))))) rfl rfl rfl (bo g49) rfl rfl (.bin rfl rfl (fun w => b_eqB w Try.underlying4) rfl) ?_
                    refine RunT.gt0 (x := .v (.bool (r51 == (decide (a2 = 0))))) rfl rfl rfl (bo g48) rfl rfl (.pickF (bo g49) rfl) ?_
                    refine RunT.ot0 (x := .v (.bool (r51 == (decide (a2 = 0))))) rfl rfl rfl rfl (.pickT (bo g48) rfl) ?_
                    refine RunT.ot0 (x := .v (.bool (r51 == (decide (a2 = 0))))) rfl rfl rfl rfl (.moveX rfl) ?_
                    refine RunT.cases (t := 112) (c := r51 == (decide (a2 = 0))) rfl (fun g53 => ?_) (fun g53 => ?_)
                    · replace H := ct H g53
                      refine RunT.gt0 (x := .v (.int .u8 a2)) rfl rfl rfl (bo g53) rfl rfl (.moveX rfl) ?_
                      refine RunT.gt0 (x := .v (.bool (!decide (a2 = 0)))) rfl rfl rfl (bo g53) rfl rfl (.bin rfl rfl (fun w => b_neq w) rfl) ?_
                      refine RunT.gt0 (x := .v (.bool (!decide (a2 = 0)))) rfl rfl rfl (bo g53) rfl rfl (.moveX rfl) ?_
                      refine RunT.cases (t := 115) (c := !decide (a2 = 0)) rfl (fun g54 => ?_) (fun g54 => ?_)
                      · replace H := ct H g54
                        refine RunT.xn rfl rfl rfl (bo g54) rfl rfl ?_
                        refine RunT.xn rfl rfl rfl (bo g54) rfl rfl ?_
                        refine RunT.gt0 (x := .v (.bool true)) rfl rfl rfl (bo g53) rfl rfl (.pickT (bo g54) rfl) ?_
                        refine RunT.ot0 (x := .v (.bool true)) rfl rfl rfl rfl (.pickT (bo g53) rfl) ?_
                        refine RunT.ot0 (x := .v (.bool true)) rfl rfl rfl rfl (.assignX rfl) ?_
                        refine RunT.nil ?_
                        obtain rfl := si H
                        refine T.sub (sub_to (st' := ⟨[(6, .v (.bool true))], [], 8, []⟩) [] (by decide) rfl rfl (⟨⟨_, rfl, .one .v⟩, trivial⟩) (trivial)) ?_
                        refine T.ret ?_
                        exact RetOk.same [.v (.bool true)] ⟨rfl, trivial⟩ rfl rfl rfl
                      · replace H := cf H g54
                        refine RunT.gt0 (x := .v (.int .i64 r34.2)) rfl rfl rfl (bo g54) rfl rfl (.moveX rfl) ?_
                        refine RunT.gt0 (x := .v (.bool (decide (r34.2 = 0)))) rfl rfl rfl (bo g54) rfl rfl (.bin rfl rfl (fun w => b_eql w) rfl) ?_
                        refine RunT.gt0 (x := .v (.bool (decide (r34.2 = 0)))) rfl rfl rfl (bo g53) rfl rfl (.pickF (bo g54) rfl) ?_
                        refine RunT.ot0 (x := .v (.bool (decide (r34.2 = 0)))) rfl rfl rfl rfl (.pickT (bo g53) rfl) ?_
                        refine RunT.ot0 (x := .v (.bool (decide (r34.2 = 0)))) rfl rfl rfl rfl (.assignX rfl) ?_
                        refine RunT.nil ?_
                        obtain rfl := si H
                        refine T.sub (sub_to (st' := ⟨[(6, .v (.bool (decide (r34.2 = 0))))], [], 8, []⟩) [] (by decide) rfl rfl (⟨⟨_, rfl, .one .v⟩, trivial⟩) (trivial)) ?_
                        refine T.ret ?_
                        exact RetOk.same [.v (.bool (decide (r34.2 = 0)))] ⟨rfl, trivial⟩ rfl rfl rfl
                    · replace H := cf H g53
                      refine RunT.xn rfl rfl rfl (bo g53) rfl rfl ?_
                      refine RunT.xn rfl rfl rfl (bo g53) rfl rfl ?_
                      refine RunT.xn rfl rfl rfl (bo g53) rfl rfl ?_
                      refine RunT.xu rfl rfl rfl rfl rfl rfl ?_
                      refine RunT.xu rfl rfl rfl rfl rfl rfl ?_
                      refine RunT.xn rfl rfl rfl (bo g53) rfl rfl ?_
                      refine RunT.ot0 (x := .v (.bool false)) rfl rfl rfl rfl (.pickF (bo g53) rfl) ?_
                      refine RunT.ot0 (x := .v (.bool false)) rfl rfl rfl rfl (.assignX rfl) ?_
                      refine RunT.nil ?_
                      obtain rfl := si H
                      refine T.sub (sub_to (st' := ⟨[(6, .v (.bool false))], [], 8, []⟩) [] (by decide) rfl rfl (⟨⟨_, rfl, .one .v⟩, trivial⟩) (trivial)) ?_
                      refine T.ret ?_
                      exact RetOk.same [.v (.bool false)] ⟨rfl, trivial⟩ rfl rfl rfl
                · replace H := cf H g48
                  refine RunT.xn rfl rfl rfl (bo g48) rfl rfl ?_
                  refine RunT.xn rfl rfl rfl (bo g48) rfl rfl ?_
                  refine RunT.xn rfl rfl rfl (bo g48) rfl rfl ?_
                  refine RunT.xu rfl rfl rfl rfl rfl rfl ?_
                  refine RunT.xu rfl rfl rfl rfl rfl rfl ?_
                  refine RunT.xu rfl rfl rfl rfl rfl rfl ?_
                  refine RunT.xu rfl rfl rfl rfl rfl rfl ?_
                  refine RunT.xu rfl rfl rfl rfl rfl rfl ?_
                  refine RunT.xu rfl rfl rfl rfl rfl rfl ?_
                  refine RunT.xn rfl rfl rfl (bo g48) rfl rfl ?_
                  refine RunT.ot0 (x := .v (.bool false)) rfl rfl rfl rfl (.pickF (bo g48) rfl) ?_
                  refine RunT.ot0 (x := .v (.bool false)) rfl rfl rfl rfl (.moveX rfl) ?_
                  refine RunT.xn rfl rfl rfl rfl rfl rfl ?_
                  refine RunT.xn rfl rfl rfl rfl rfl rfl ?_
                  refine RunT.xn rfl rfl rfl rfl rfl rfl ?_
                  refine RunT.xu rfl rfl rfl rfl rfl rfl ?_
                  refine RunT.xu rfl rfl rfl rfl rfl rfl ?_
                  refine RunT.xn rfl rfl rfl rfl rfl rfl ?_
                  refine RunT.ot0 (x := .v (.bool false)) rfl rfl rfl rfl (.pickF rfl rfl) ?_
                  refine RunT.ot0 (x := .v (.bool false)) rfl rfl rfl rfl (.assignX rfl) ?_
                  refine RunT.nil ?_
                  obtain rfl := si H
                  refine T.sub (sub_to (st' := ⟨[(6, .v (.bool false))], [], 8, []⟩) [] (by decide) rfl rfl (⟨⟨_, rfl, .one .v⟩, trivial⟩) (trivial)) ?_
                  refine T.ret ?_
                  exact RetOk.same [.v (.bool false)] ⟨rfl, trivial⟩ rfl rfl rfl
            · replace H := cf H g40
              refine RunT.xn rfl rfl rfl (bo g40) rfl rfl ?_
              refine RunT.xn rfl rfl rfl (bo g40) rfl rfl ?_
              refine RunT.xn rfl rfl rfl (bo g40) rfl rfl ?_
              refine RunT.xu rfl rfl rfl rfl rfl rfl ?_
              refine RunT.xu rfl rfl rfl rfl rfl rfl ?_
              refine RunT.xn rfl rfl rfl (bo g40) rfl rfl ?_
              refine RunT.ot0 (x := .v (.bool false)) rfl rfl rfl rfl (.pickF (bo g40) rfl) ?_
              refine RunT.ot0 (x := .v (.bool false)) rfl rfl rfl rfl (.moveX rfl) ?_
              refine RunT.xn rfl rfl rfl rfl rfl rfl ?_
              refine RunT.xn rfl rfl rfl rfl rfl rfl ?_
              refine RunT.xn rfl rfl rfl rfl rfl rfl ?_
              refine RunT.xu rfl rfl rfl rfl rfl rfl ?_
              refine RunT.xu rfl rfl rfl rfl rfl rfl ?_
              refine RunT.xu rfl rfl rfl rfl rfl rfl ?_
              refine RunT.xu rfl rfl rfl rfl rfl rfl ?_
              refine RunT.xu rfl rfl rfl rfl rfl rfl ?_
              refine RunT.xu rfl rfl rfl rfl rfl rfl ?_
              refine RunT.xn rfl rfl rfl rfl rfl rfl ?_
              refine RunT.ot0 (x := .v (.bool false)) rfl rfl rfl rfl (.pickF rfl rfl) ?_
              refine RunT.ot0 (x := .v (.bool false)) rfl rfl rfl rfl (.moveX rfl) ?_
              refine RunT.xn rfl rfl rfl rfl rfl rfl ?_
              refine RunT.xn rfl rfl rfl rfl rfl rfl ?_
              refine RunT.xn rfl rfl rfl rfl rfl rfl ?_
              refine RunT.xu rfl rfl rfl rfl rfl rfl ?_
              refine RunT.xu rfl rfl rfl rfl rfl rfl ?_
              refine RunT.xn rfl rfl rfl rfl rfl rfl ?_
              refine RunT.ot0 (x := .v (.bool false)) rfl rfl rfl rfl (.pickF rfl rfl) ?_
              refine RunT.ot0 (x := .v (.bool false)) rfl rfl rfl rfl (.assignX rfl) ?_
              refine RunT.nil ?_
              obtain rfl := si H
              refine T.sub (sub_to (st' := ⟨[(6, .v (.bool false))], [], 8, []⟩) [] (by decide) rfl rfl (⟨⟨_, rfl, .one .v⟩, trivial⟩) (trivial)) ?_
              refine T.ret ?_
              exact RetOk.same [.v (.bool false)] ⟨rfl, trivial⟩ rfl rfl rfl
          · replace H := cf H g39
            refine RunT.xn rfl rfl rfl (bo g39) rfl rfl ?_
            refine RunT.xn rfl rfl rfl (bo g39) rfl rfl ?_
            refine RunT.ot0 (x := .v (.bool false)) rfl rfl rfl rfl (.pickF (bo g39) rfl) ?_
            refine RunT.ot0 (x := .v (.bool false)) rfl rfl rfl rfl (.moveX rfl) ?_
            refine RunT.xn rfl rfl rfl rfl rfl rfl ?_
            refine RunT.xn rfl rfl rfl rfl rfl rfl ?_
            refine RunT.xn rfl rfl rfl rfl rfl rfl ?_
            refine RunT.xu rfl rfl rfl rfl rfl rfl ?_
            refine RunT.xu rfl rfl rfl rfl rfl rfl ?_
            refine RunT.xn rfl rfl rfl rfl rfl rfl ?_
            refine RunT.ot0 (x := .v (.bool false)) rfl rfl rfl rfl (.pickF rfl rfl) ?_
            refine RunT.ot0 (x := .v (.bool false)) rfl rfl rfl rfl (.moveX rfl) ?_
            refine RunT.xn rfl rfl rfl rfl rfl rfl ?_
            refine RunT.xn rfl rfl rfl rfl rfl rfl ?_
            refine RunT.xn rfl rfl rfl rfl rfl rfl ?_
            refine RunT.xu rfl rfl rfl rfl rfl rfl ?_
            refine RunT.xu rfl rfl rfl rfl rfl rfl ?_
            refine RunT.xu rfl rfl rfl rfl rfl rfl ?_
            refine RunT.xu rfl rfl rfl rfl rfl rfl ?_
            refine RunT.xu rfl rfl rfl rfl rfl rfl ?_
            refine RunT.xu rfl rfl rfl rfl rfl rfl ?_
            refine RunT.xn rfl rfl rfl rfl rfl rfl ?_
            refine RunT.ot0 (x := .v (.bool false)) rfl rfl rfl rfl (.pickF rfl rfl) ?_
            refine RunT.ot0 (x := .v (.bool false)) rfl rfl rfl rfl (.moveX rfl) ?_
            refine RunT.xn rfl rfl rfl rfl rfl rfl ?_
            refine RunT.xn rfl rfl rfl rfl rfl rfl ?_
            refine RunT.xn rfl rfl rfl rfl rfl rfl ?_
            refine RunT.xu rfl rfl rfl rfl rfl rfl ?_
            refine RunT.xu rfl rfl rfl rfl rfl rfl ?_
            refine RunT.xn rfl rfl rfl rfl rfl rfl ?_
            refine RunT.ot0 (x := .v (.bool false)) rfl rfl rfl rfl (.pickF rfl rfl) ?_
            refine RunT.ot0 (x := .v (.bool false)) rfl rfl rfl rfl (.assignX rfl) ?_
            refine RunT.nil ?_
            obtain rfl := si H
            refine T.sub (sub_to (st' := ⟨[(6, .v (.bool false))], [], 8, []⟩) [] (by decide) rfl rfl (⟨⟨_, rfl, .one .v⟩, trivial⟩) (trivial)) ?_
            refine T.ret ?_
            exact RetOk.same [.v (.bool false)] ⟨rfl, trivial⟩ rfl rfl rfl
        · replace H := cf H g38
          refine RunT.xn rfl rfl rfl (bo g38) rfl rfl ?_
          refine RunT.xn rfl rfl rfl (bo g38) rfl rfl ?_
          refine RunT.ot0 (x := .v (.bool false)) rfl rfl rfl rfl (.pickF (bo g38) rfl) ?_
          refine RunT.ot0 (x := .v (.bool false)) rfl rfl rfl rfl (.moveX rfl) ?_
          refine RunT.xn rfl rfl rfl rfl rfl rfl ?_
          refine RunT.xn rfl rfl rfl rfl rfl rfl ?_
          refine RunT.ot0 (x := .v (.bool false)) rfl rfl rfl rfl (.pickF rfl rfl) ?_
          refine RunT.ot0 (x := .v (.bool false)) rfl rfl rfl rfl (.moveX rfl) ?_
          refine RunT.xn rfl rfl rfl rfl rfl rfl ?_
          refine RunT.xn rfl rfl rfl rfl rfl rfl ?_
          refine RunT.xn rfl rfl rfl rfl rfl rfl ?_
          refine RunT.xu rfl rfl rfl rfl rfl rfl ?_
          refine RunT.xu rfl rfl rfl rfl rfl rfl ?_
          refine RunT.xn rfl rfl rfl rfl rfl rfl ?_
          refine RunT.ot0 (x := .v (.bool false)) rfl rfl rfl rfl (.pickF rfl rfl) ?_
          refine RunT.ot0 (x := .v (.bool false)) rfl rfl rfl rfl (.moveX rfl) ?_
          refine RunT.xn rfl rfl rfl rfl rfl rfl ?_
          refine RunT.xn rfl rfl rfl rfl rfl rfl ?_
          refine RunT.xn rfl rfl rfl rfl rfl rfl ?_
          refine RunT.xu rfl rfl rfl rfl rfl rfl ?_
          refine RunT.xu rfl rfl rfl rfl rfl rfl ?_
          refine RunT.xu rfl rfl rfl rfl rfl rfl ?_
          refine RunT.xu rfl rfl rfl rfl rfl rfl ?_
          refine RunT.xu rfl rfl rfl rfl rfl rfl ?_
          refine RunT.xu rfl rfl rfl rfl rfl rfl ?_
          refine RunT.xn rfl rfl rfl rfl rfl rfl ?_
          refine RunT.ot0 (x := .v (.bool false)) rfl rfl rfl rfl (.pickF rfl rfl) ?_
          refine RunT.ot0 (x := .v (.bool false)) rfl rfl rfl rfl (.moveX rfl) ?_
          refine RunT.xn rfl rfl rfl rfl rfl rfl ?_
          refine RunT.xn rfl rfl rfl rfl rfl rfl ?_
          refine RunT.xn rfl rfl rfl rfl rfl rfl ?_
          refine RunT.xu rfl rfl rfl rfl rfl rfl ?_
          refine RunT.xu rfl rfl rfl rfl rfl rfl ?_
          refine RunT.xn rfl rfl rfl rfl rfl rfl ?_
          refine RunT.ot0 (x := .v (.bool false)) rfl rfl rfl rfl (.pickF rfl rfl) ?_
          refine RunT.ot0 (x := .v (.bool false)) rfl rfl rfl rfl (.assignX rfl) ?_
          refine RunT.nil ?_
          obtain rfl := si H
          refine T.sub (sub_to (st' := ⟨[(6, .v (.bool false))], [], 8, []⟩) [] (by decide) rfl rfl (⟨⟨_, rfl, .one .v⟩, trivial⟩) (trivial)) ?_
          refine T.ret ?_
          exact RetOk.same [.v (.bool false)] ⟨rfl, trivial⟩ rfl rfl rfl
end Go.Proofs.Ytijfhnpmdhonhaa
