/- The Go functions come to just what their plain forms come to: one contract each. -/
import Derived.Test.YtijfhnpmdhonhaaYRecordKinds0
set_option linter.unusedVariables false
set_option linter.unusedSimpArgs false
set_option maxRecDepth 100000
namespace Go.Proofs.Ytijfhnpmdhonhaa
open Go Go.Sh Go.Px
attribute [local irreducible] Go.Sh.T Go.Sh.RunT Go.Sh.RunD
set_option maxHeartbeats 4000000 in
theorem law22_told_pc (al : Bool) (k : Nat)  (o : Bool) (H : law22_told k  = some o) : PC Try.prog al 32 [] (.v (.bool o)) := by
  unfold law22_told at H
  refine PC.of_T Try.func32 rfl rfl (n := 127) rfl rfl (.inr rfl) ?_
  intro base B w0
  refine T.st (st' := ⟨[], [], 0, []⟩) rfl ?_
  refine T.seq ?_
  refine T.region ?_
  refine RunT.ot0 (x := .v (.bool false)) rfl rfl rfl rfl (.assignX rfl) ?_
  refine RunT.nil ?_
  refine T.seq ?_
  refine T.region ?_
  refine RunT.ot0 (x := .agg [.v (.int .i64 2), .v (.int .i64 0)]) rfl rfl rfl rfl (.bu bu23 rfl) ?_
  refine RunT.ot0 (x := .agg [.v (.int .i64 258), .v (.int .i64 1), .v (.int .i64 2), .v (.int .i64 0), .v (.int .i64 5), .v (.int .i64 (-1))]) rfl rfl rfl rfl (.bu bu49 rfl) ?_
  refine RunT.ot0 (x := .agg [.v (.int .i64 2), .v (.string (⟨#[]⟩ : ByteArray)), .v (.int .i64 258), .v (.int .i64 1), .v (.int .i64 2), .v (.int .i64 0), .v (.int .i64 5), .v (.int .i64 (-1)), .v (.int .i64 0)]) rfl rfl rfl rfl (.bu bu51 rfl) ?_
  refine RunT.ot1 (x := .ptr 0 0) (p0 := (0, some (.box [.v (.int .i64 0), .v (.string (⟨#[]⟩ : ByteArray)), .v (.int .i64 0), .v (.int .i64 0), .v (.int .i64 0), .v (.int .i64 0), .v (.int .i64 0), .v (.int .i64 0), .v (.int .i64 0)]))) (n' := 8) rfl rfl rfl rfl (.allocX in51.zero rfl rfl) rfl ?_
  refine RunT.on1 (x := .junk) (p0 := (0, some (.box [.v (.int .i64 2), .v (.string (⟨#[]⟩ : ByteArray)), .v (.int .i64 258), .v (.int .i64 1), .v (.int .i64 2), .v (.int .i64 0), .v (.int .i64 5), .v (.int .i64 (-1)), .v (.int .i64 0)]))) (n' := 16) rfl rfl rfl (.storePX ty51 rfl rfl rfl rfl rfl rfl rfl) rfl ?_
  refine RunT.nil ?_
  refine T.seq ?_
  refine T.region ?_
  refine RunT.ot0 (x := .agg [.v (.int .i64 2), .v (.string (⟨#[]⟩ : ByteArray)), .v (.int .i64 258), .v (.int .i64 1), .v (.int .i64 2), .v (.int .i64 0), .v (.int .i64 5), .v (.int .i64 (-1)), .v (.int .i64 0)]) rfl rfl rfl rfl (.loadP ty51 rfl rfl rfl) ?_
  obtain ⟨r1, h2, H⟩ := bs H
  refine RunT.ot0 (x := .tup [.lst (List.map eU8 r1.1), .v (.int .i64 r1.2)]) rfl rfl rfl rfl (.callp (PC.frozen (record_Put_pc false k (Record.mk 2 (⟨#[]⟩ : ByteArray) (Order.mk 258 1 (Party.mk 2 0) 5 (-1)) 0) r1 h2)) rfl ⟨(.agg' ⟨.v, .v, .v, .v, .v, .v, .v, .v, .v, trivial⟩), trivial⟩ rfl rfl rfl) ?_
  refine RunT.ot0 (x := .tup [.lst (List.map eU8 r1.1), .v (.int .i64 r1.2)]) rfl rfl rfl rfl (.moveX rfl) ?_
  refine RunT.ot0 (x := .lst (List.map eU8 r1.1)) rfl rfl rfl rfl (.extract rfl rfl) ?_
  refine RunT.ot0 (x := .v (.int .i64 r1.2)) rfl rfl rfl rfl (.extract rfl rfl) ?_
  refine RunT.ot0 (x := .lst (List.map eU8 r1.1)) rfl rfl rfl rfl (.assignX rfl) ?_
  refine RunT.ot0 (x := .v (.int .i64 r1.2)) rfl rfl rfl rfl (.assignX rfl) ?_
  refine RunT.nil ?_
  refine T.seq ?_
  refine T.region ?_
  refine RunT.ot0 (x := .lst (List.map eU8 r1.1)) rfl rfl rfl rfl (.moveX rfl) ?_
  obtain ⟨r3, h4, H⟩ := bs H
  refine RunT.ot0 (x := .tup [.agg [.v (.int .i64 r3.1.Kind), .v (.string r3.1.Text), .v (.int .i64 r3.1.Order.Id), .v (.int .i64 r3.1.Order.State), .v (.int .i64 r3.1.Order.Party.Size), .v (.int .i64 r3.1.Order.Party.Wheels), .v (.int .i64 r3.1.Order.Until), .v (.int .i64 r3.1.Order.First), .v (.int .i64 r3.1.Time)], .v (.int .i64 r3.2)]) rfl rfl rfl rfl (.callp (record_Get_pc false k r1.1 r3 h4) rfl ⟨(.one .lst), trivial⟩ rfl rfl rfl) ?_
  refine RunT.ot0 (x := .tup [.agg [.v (.int .i64 r3.1.Kind), .v (.string r3.1.Text), .v (.int .i64 r3.1.Order.Id), .v (.int .i64 r3.1.Order.State), .v (.int .i64 r3.1.Order.Party.Size), .v (.int .i64 r3.1.Order.Party.Wheels), .v (.int .i64 r3.1.Order.Until), .v (.int .i64 r3.1.Order.First), .v (.int .i64 r3.1.Time)], .v (.int .i64 r3.2)]) rfl rfl rfl rfl (.moveX rfl) ?_
  refine RunT.ot0 (x := .agg [.v (.int .i64 r3.1.Kind), .v (.string r3.1.Text), .v (.int .i64 r3.1.Order.Id), .v (.int .i64 r3.1.Order.State), .v (.int .i64 r3.1.Order.Party.Size), .v (.int .i64 r3.1.Order.Party.Wheels), .v (.int .i64 r3.1.Order.Until), .v (.int .i64 r3.1.Order.First), .v (.int .i64 r3.1.Time)]) rfl rfl rfl rfl (.extract rfl rfl) ?_
  refine RunT.ot0 (x := .v (.int .i64 r3.2)) rfl rfl rfl rfl (.extract rfl rfl) ?_
  refine RunT.ot1 (x := .ptr 16 0) (p0 := (16, some (.box [.v (.int .i64 0), .v (.string (⟨#[]⟩ : ByteArray)), .v (.int .i64 0), .v (.int .i64 0), .v (.int .i64 0), .v (.int .i64 0), .v (.int .i64 0), .v (.int .i64 0), .v (.int .i64 0)]))) (n' := 24) rfl rfl rfl rfl (.allocX in51.zero rfl rfl) rfl ?_
  refine RunT.on1 (x := .junk) (p0 := (16, some (.box [.v (.int .i64 r3.1.Kind), .v (.string r3.1.Text), .v (.int .i64 r3.1.Order.Id), .v (.int .i64 r3.1.Order.State), .v (.int .i64 r3.1.Order.Party.Size), .v (.int .i64 r3.1.Order.Party.Wheels), .v (.int .i64 r3.1.Order.Until), .v (.int .i64 r3.1.Order.First), .v (.int .i64 r3.1.Time)]))) (n' := 32) rfl rfl rfl (.storePX ty51 rfl rfl rfl rfl rfl rfl rfl) rfl ?_
  refine RunT.ot0 (x := .v (.int .i64 r3.2)) rfl rfl rfl rfl (.assignX rfl) ?_
  refine RunT.nil ?_
  refine T.seq ?_
  refine T.sub (sub_pick [1, 2, 3, 4, 5] [0, 16] (st' := ⟨[(1, .ptr 0 0), (2, .lst (List.map eU8 r1.1)), (3, .v (.int .i64 r1.2)), (4, .ptr 16 0), (5, .v (.int .i64 r3.2))], [(0, some (.box [.v (.int .i64 2), .v (.string (⟨#[]⟩ : ByteArray)), .v (.int .i64 258), .v (.int .i64 1), .v (.int .i64 2), .v (.int .i64 0), .v (.int .i64 5), .v (.int .i64 (-1)), .v (.int .i64 0)])), (16, some (.box [.v (.int .i64 r3.1.Kind), .v (.string r3.1.Text), .v (.int .i64 r3.1.Order.Id), .v (.int .i64 r3.1.Order.State), .v (.int .i64 r3.1.Order.Party.Size), .v (.int .i64 r3.1.Order.Party.Wheels), .v (.int .i64 r3.1.Order.Until), .v (.int .i64 r3.1.Order.First), .v (.int .i64 r3.1.Time)]))], 32, []⟩) rfl rfl rfl rfl rfl) ?_
  refine T.region ?_
  refine RunT.ot0 (x := .agg [.v (.int .i64 4), .v (.string (⟨#[]⟩ : ByteArray)), .v (.int .i64 0), .v (.int .i64 0), .v (.int .i64 0), .v (.int .i64 0), .v (.int .i64 0), .v (.int .i64 0), .v (.int .i64 0)]) rfl rfl rfl rfl (.bu bu51 rfl) ?_
  obtain ⟨r5, h6, H⟩ := bs H
  refine RunT.ot0 (x := .tup [.lst (List.map eU8 r5.1), .v (.int .i64 r5.2)]) rfl rfl rfl rfl (.callp (PC.frozen (record_Put_pc false k (Record.mk 4 (⟨#[]⟩ : ByteArray) (Order.mk 0 0 (Party.mk 0 0) 0 0) 0) r5 h6)) rfl ⟨(.agg' ⟨.v, .v, .v, .v, .v, .v, .v, .v, .v, trivial⟩), trivial⟩ rfl rfl rfl) ?_
  refine RunT.ot0 (x := .tup [.lst (List.map eU8 r5.1), .v (.int .i64 r5.2)]) rfl rfl rfl rfl (.moveX rfl) ?_
  refine RunT.ot0 (x := .lst (List.map eU8 r5.1)) rfl rfl rfl rfl (.extract rfl rfl) ?_
  refine RunT.ot0 (x := .v (.int .i64 r5.2)) rfl rfl rfl rfl (.extract rfl rfl) ?_
  refine RunT.ot0 (x := .lst (List.map eU8 r5.1)) rfl rfl rfl rfl (.assignX rfl) ?_
  refine RunT.ot0 (x := .v (.int .i64 r5.2)) rfl rfl rfl rfl (.assignX rfl) ?_
  refine RunT.nil ?_
  refine T.seq ?_
  refine T.region ?_
  refine RunT.ot0 (x := .agg [.v (.int .i64 0), .v (.string (⟨#[]⟩ : ByteArray)), .v (.int .i64 0), .v (.int .i64 0), .v (.int .i64 0), .v (.int .i64 0), .v (.int .i64 0), .v (.int .i64 0), .v (.int .i64 0)]) rfl rfl rfl rfl (.bu bu51 rfl) ?_
  obtain ⟨r7, h8, H⟩ := bs H
  refine RunT.ot0 (x := .tup [.lst (List.map eU8 r7.1), .v (.int .i64 r7.2)]) rfl rfl rfl rfl (.callp (PC.frozen (record_Put_pc false k (Record.mk 0 (⟨#[]⟩ : ByteArray) (Order.mk 0 0 (Party.mk 0 0) 0 0) 0) r7 h8)) rfl ⟨(.agg' ⟨.v, .v, .v, .v, .v, .v, .v, .v, .v, trivial⟩), trivial⟩ rfl rfl rfl) ?_
  refine RunT.ot0 (x := .tup [.lst (List.map eU8 r7.1), .v (.int .i64 r7.2)]) rfl rfl rfl rfl (.moveX rfl) ?_
  refine RunT.ot0 (x := .lst (List.map eU8 r7.1)) rfl rfl rfl rfl (.extract rfl rfl) ?_
  refine RunT.ot0 (x := .v (.int .i64 r7.2)) rfl rfl rfl rfl (.extract rfl rfl) ?_
  refine RunT.ot0 (x := .lst (List.map eU8 r7.1)) rfl rfl rfl rfl (.assignX rfl) ?_
  refine RunT.ot0 (x := .v (.int .i64 r7.2)) rfl rfl rfl rfl (.assignX rfl) ?_
  refine RunT.nil ?_
  refine T.seq ?_
  refine T.region ?_
  obtain ⟨r9, h10, H⟩ := bs H
  refine RunT.ot0 (x := .tup [.agg [.v (.int .i64 r9.1.Kind), .v (.string r9.1.Text), .v (.int .i64 r9.1.Order.Id), .v (.int .i64 r9.1.Order.State), .v (.int .i64 r9.1.Order.Party.Size), .v (.int .i64 r9.1.Order.Party.Wheels), .v (.int .i64 r9.1.Order.Until), .v (.int .i64 r9.1.Order.First), .v (.int .i64 r9.1.Time)], .v (.int .i64 r9.2)]) rfl rfl rfl rfl (.callp (record_Get_pc false k [] r9 h10) rfl ⟨(.one .nil), trivial⟩ rfl rfl rfl) ?_
  refine RunT.ot0 (x := .tup [.agg [.v (.int .i64 r9.1.Kind), .v (.string r9.1.Text), .v (.int .i64 r9.1.Order.Id), .v (.int .i64 r9.1.Order.State), .v (.int .i64 r9.1.Order.Party.Size), .v (.int .i64 r9.1.Order.Party.Wheels), .v (.int .i64 r9.1.Order.Until), .v (.int .i64 r9.1.Order.First), .v (.int .i64 r9.1.Time)], .v (.int .i64 r9.2)]) rfl rfl rfl rfl (.moveX rfl) ?_
  refine RunT.ot0 (x := .agg [.v (.int .i64 r9.1.Kind), .v (.string r9.1.Text), .v (.int .i64 r9.1.Order.Id), .v (.int .i64 r9.1.Order.State), .v (.int .i64 r9.1.Order.Party.Size), .v (.int .i64 r9.1.Order.Party.Wheels), .v (.int .i64 r9.1.Order.Until), .v (.int .i64 r9.1.Order.First), .v (.int .i64 r9.1.Time)]) rfl rfl rfl rfl (.extract rfl rfl) ?_
  refine RunT.ot0 (x := .v (.int .i64 r9.2)) rfl rfl rfl rfl (.extract rfl rfl) ?_
  refine RunT.ot1 (x := .ptr 32 0) (p0 := (32, some (.box [.v (.int .i64 0), .v (.string (⟨#[]⟩ : ByteArray)), .v (.int .i64 0), .v (.int .i64 0), .v (.int .i64 0), .v (.int .i64 0), .v (.int .i64 0), .v (.int .i64 0), .v (.int .i64 0)]))) (n' := 40) rfl rfl rfl rfl (.allocX in51.zero rfl rfl) rfl ?_
  refine RunT.on1 (x := .junk) (p0 := (32, some (.box [.v (.int .i64 r9.1.Kind), .v (.string r9.1.Text), .v (.int .i64 r9.1.Order.Id), .v (.int .i64 r9.1.Order.State), .v (.int .i64 r9.1.Order.Party.Size), .v (.int .i64 r9.1.Order.Party.Wheels), .v (.int .i64 r9.1.Order.Until), .v (.int .i64 r9.1.Order.First), .v (.int .i64 r9.1.Time)]))) (n' := 48) rfl rfl rfl (.storePX ty51 rfl rfl rfl rfl rfl rfl rfl) rfl ?_
  refine RunT.ot0 (x := .v (.int .i64 r9.2)) rfl rfl rfl rfl (.assignX rfl) ?_
  refine RunT.nil ?_
  refine T.seq ?_
  refine T.sub (sub_pick [1, 2, 3, 4, 5, 6, 7, 9, 11] [0, 16] (st' := ⟨[(1, .ptr 0 0), (2, .lst (List.map eU8 r1.1)), (3, .v (.int .i64 r1.2)), (4, .ptr 16 0), (5, .v (.int .i64 r3.2)), (6, .lst (List.map eU8 r5.1)), (7, .v (.int .i64 r5.2)), (9, .v (.int .i64 r7.2)), (11, .v (.int .i64 r9.2))], [(0, some (.box [.v (.int .i64 2), .v (.string (⟨#[]⟩ : ByteArray)), .v (.int .i64 258), .v (.int .i64 1), .v (.int .i64 2), .v (.int .i64 0), .v (.int .i64 5), .v (.int .i64 (-1)), .v (.int .i64 0)])), (16, some (.box [.v (.int .i64 r3.1.Kind), .v (.string r3.1.Text), .v (.int .i64 r3.1.Order.Id), .v (.int .i64 r3.1.Order.State), .v (.int .i64 r3.1.Order.Party.Size), .v (.int .i64 r3.1.Order.Party.Wheels), .v (.int .i64 r3.1.Order.Until), .v (.int .i64 r3.1.Order.First), .v (.int .i64 r3.1.Time)]))], 48, []⟩) rfl rfl rfl rfl rfl) ?_
  refine T.region ?_
  refine RunT.ot1 (x := .own 48 0 (([4, 0]).length)) (p0 := (48, some (.arr false 1 (List.map eU8 [4, 0])))) (n' := 56) rfl rfl rfl rfl (.bslicem (d := false) (l := [4, 0]) (f := eU8) sl35 rfl rfl rfl enc_U8 rfl) rfl ?_
  obtain ⟨r11, h12, H⟩ := bs H
  refine RunT.ot0 (x := .tup [.agg [.v (.int .i64 r11.1.Kind), .v (.string r11.1.Text), .v (.int .i64 r11.1.Order.Id), .v (.int .i64 r11.1.Order.State), .v (.int .i64 r11.1.Order.Party.Size), .v (.int .i64 r11.1.Order.Party.Wheels), .v (.int .i64 r11.1.Order.Until), .v (.int .i64 r11.1.Order.First), .v (.int .i64 r11.1.Time)], .v (.int .i64 r11.2)]) rfl rfl rfl rfl (.callp (record_Get_pc false k [4, 0] r11 h12) rfl ⟨(.one (.all rfl (List.length_map _).symm)), trivial⟩ rfl rfl rfl) ?_
  refine RunT.ot0 (x := .tup [.agg [.v (.int .i64 r11.1.Kind), .v (.string r11.1.Text), .v (.int .i64 r11.1.Order.Id), .v (.int .i64 r11.1.Order.State), .v (.int .i64 r11.1.Order.Party.Size), .v (.int .i64 r11.1.Order.Party.Wheels), .v (.int .i64 r11.1.Order.Until), .v (.int .i64 r11.1.Order.First), .v (.int .i64 r11.1.Time)], .v (.int .i64 r11.2)]) rfl rfl rfl rfl (.moveX rfl) ?_
  refine RunT.ot0 (x := .agg [.v (.int .i64 r11.1.Kind), .v (.string r11.1.Text), .v (.int .i64 r11.1.Order.Id), .v (.int .i64 r11.1.Order.State), .v (.int .i64 r11.1.Order.Party.Size), .v (.int .i64 r11.1.Order.Party.Wheels), .v (.int .i64 r11.1.Order.Until), .v (.int .i64 r11.1.Order.First), .v (.int .i64 r11.1.Time)]) rfl rfl rfl rfl (.extract rfl rfl) ?_
  refine RunT.ot0 (x := .v (.int .i64 r11.2)) rfl rfl rfl rfl (.extract rfl rfl) ?_
  refine RunT.ot1 (x := .ptr 56 0) (p0 := (56, some (.box [.v (.int .i64 0), .v (.string (⟨#[]⟩ : ByteArray)), .v (.int .i64 0), .v (.int .i64 0), .v (.int .i64 0), .v (.int .i64 0), .v (.int .i64 0), .v (.int .i64 0), .v (.int .i64 0)]))) (n' := 64) rfl rfl rfl rfl (.allocX in51.zero rfl rfl) rfl ?_
  refine RunT.on1 (x := .junk) (p0 := (56, some (.box [.v (.int .i64 r11.1.Kind), .v (.string r11.1.Text), .v (.int .i64 r11.1.Order.Id), .v (.int .i64 r11.1.Order.State), .v (.int .i64 r11.1.Order.Party.Size), .v (.int .i64 r11.1.Order.Party.Wheels), .v (.int .i64 r11.1.Order.Until), .v (.int .i64 r11.1.Order.First), .v (.int .i64 r11.1.Time)]))) (n' := 72) rfl rfl rfl (.storePX ty51 rfl rfl rfl rfl rfl rfl rfl) rfl ?_
  refine RunT.ot0 (x := .v (.int .i64 r11.2)) rfl rfl rfl rfl (.assignX rfl) ?_
  refine RunT.nil ?_
  refine T.seq ?_
  refine T.region ?_
  refine RunT.ot0 (x := .v (.int .i64 r1.2)) rfl rfl rfl rfl (.moveX rfl) ?_
  refine RunT.ot0 (x := .v (.bool (decide (r1.2 = 0)))) rfl rfl rfl rfl (.bin rfl rfl (fun w => b_eql w) rfl) ?_
  refine RunT.ot0 (x := .v (.bool (decide (r1.2 = 0)))) rfl rfl rfl rfl (.moveX rfl) ?_
  refine RunT.cases (t := 48) (c := decide (r1.2 = 0)) rfl (fun g13 => ?_) (fun g13 => ?_)
  · replace H := ct H g13
    refine RunT.gt0 (x := .lst (List.map eU8 r1.1)) rfl rfl rfl (bo g13) rfl rfl (.moveX rfl) ?_
    refine RunT.gt0 (x := .v (.int .i64 (r1.1.length : Int))) rfl rfl rfl (bo g13) rfl rfl (.lenLm Try.underlying35 rfl rfl) ?_
    refine RunT.gt0 (x := .v (.bool (decide ((r1.1.length : Int) = 20)))) rfl rfl rfl (bo g13) rfl rfl (.bin rfl rfl (fun w => b_eql w) rfl) ?_
    refine RunT.ot0 (x := .v (.bool (decide ((r1.1.length : Int) = 20)))) rfl rfl rfl rfl (.pickT (bo g13) rfl) ?_
    refine RunT.ot0 (x := .v (.bool (decide ((r1.1.length : Int) = 20)))) rfl rfl rfl rfl (.moveX rfl) ?_
    refine RunT.cases (t := 53) (c := decide ((r1.1.length : Int) = 20)) rfl (fun g14 => ?_) (fun g14 => ?_)
    · replace H := ct H g14
      refine RunT.gt0 (x := .lst (List.map eU8 r1.1)) rfl rfl rfl (bo g14) rfl rfl (.moveX rfl) ?_
      obtain ⟨y15, h16, H⟩ := bs H
      refine RunT.gt0 (x := .rptr [.v (.int .u8 y15)]) rfl rfl rfl (bo g14) rfl rfl (.idxLX h16 enc_U8 sl35 rfl rfl rfl) ?_
      refine RunT.gt0 (x := .v (.int .u8 y15)) rfl rfl rfl (bo g14) rfl rfl (.loadR ty5 rfl rfl) ?_
      refine RunT.gt0 (x := .v (.bool (decide (y15 = 2)))) rfl rfl rfl (bo g14) rfl rfl (.bin rfl rfl (fun w => b_eql w) rfl) ?_
      refine RunT.ot0 (x := .v (.bool (decide (y15 = 2)))) rfl rfl rfl rfl (.pickT (bo g14) rfl) ?_
      refine RunT.ot0 (x := .v (.bool (decide (y15 = 2)))) rfl rfl rfl rfl (.moveX rfl) ?_
      refine RunT.cases (t := 59) (c := decide (y15 = 2)) rfl (fun g17 => ?_) (fun g17 => ?_)
      · replace H := ct H g17
        refine RunT.gt0 (x := .lst (List.map eU8 r1.1)) rfl rfl rfl (bo g17) rfl rfl (.moveX rfl) ?_
        obtain ⟨y18, h19, H⟩ := bs H
        refine RunT.gt0 (x := .rptr [.v (.int .u8 y18)]) rfl rfl rfl (bo g17) rfl rfl (.idxLX h19 enc_U8 sl35 rfl rfl rfl) ?_
        refine RunT.gt0 (x := .v (.int .u8 y18)) rfl rfl rfl (bo g17) rfl rfl (.loadR ty5 rfl rfl) ?_
        refine RunT.gt0 (x := .v (.bool (decide (y18 = 2)))) rfl rfl rfl (bo g17) rfl rfl (.bin rfl rfl (fun w => b_eql w) rfl) ?_
        refine RunT.ot0 (x := .v (.bool (decide (y18 = 2)))) rfl rfl rfl rfl (.pickT (bo g17) rfl) ?_
        refine RunT.ot0 (x := .v (.bool (decide (y18 = 2)))) rfl rfl rfl rfl (.moveX rfl) ?_
        refine RunT.cases (t := 65) (c := decide (y18 = 2)) rfl (fun g20 => ?_) (fun g20 => ?_)
        · replace H := ct H g20
          refine RunT.gt0 (x := .lst (List.map eU8 r1.1)) rfl rfl rfl (bo g20) rfl rfl (.moveX rfl) ?_
          obtain ⟨y21, h22, H⟩ := bs H
          refine RunT.gt0 (x := .rptr [.v (.int .u8 y21)]) rfl rfl rfl (bo g20) rfl rfl (.idxLX h22 enc_U8 sl35 rfl rfl rfl) ?_
          refine RunT.gt0 (x := .v (.int .u8 y21)) rfl rfl rfl (bo g20) rfl rfl (.loadR ty5 rfl rfl) ?_
          refine RunT.gt0 (x := .v (.bool (decide (y21 = 1)))) rfl rfl rfl (bo g20) rfl rfl (.bin rfl rfl (fun w => b_eql w) rfl) ?_
          refine RunT.ot0 (x := .v (.bool (decide (y21 = 1)))) rfl rfl rfl rfl (.pickT (bo g20) rfl) ?_
          refine RunT.ot0 (x := .v (.bool (decide (y21 = 1)))) rfl rfl rfl rfl (.moveX rfl) ?_
          refine RunT.cases (t := 71) (c := decide (y21 = 1)) rfl (fun g23 => ?_) (fun g23 => ?_)
          · replace H := ct H g23
            refine RunT.gt0 (x := .lst (List.map eU8 r1.1)) rfl rfl rfl (bo g23) rfl rfl (.moveX rfl) ?_
            obtain ⟨y24, h25, H⟩ := bs H
            refine RunT.gt0 (x := .rptr [.v (.int .u8 y24)]) rfl rfl rfl (bo g23) rfl rfl (.idxLX h25 enc_U8 sl35 rfl rfl rfl) ?_
            refine RunT.gt0 (x := .v (.int .u8 y24)) rfl rfl rfl (bo g23) rfl rfl (.loadR ty5 rfl rfl) ?_
            refine RunT.gt0 (x := .v (.bool (decide (y24 = 0)))) rfl rfl rfl (bo g23) rfl rfl (.bin rfl rfl (fun w => b_eql w) rfl) ?_
            refine RunT.ot0 (x := .v (.bool (decide (y24 = 0)))) rfl rfl rfl rfl (.pickT (bo g23) rfl) ?_
            refine RunT.ot0 (x := .v (.bool (decide (y24 = 0)))) rfl rfl rfl rfl (.moveX rfl) ?_
            refine RunT.cases (t := 77) (c := decide (y24 = 0)) rfl (fun g26 => ?_) (fun g26 => ?_)
            · replace H := ct H g26
              refine RunT.gt0 (x := .v (.int .i64 r3.2)) rfl rfl rfl (bo g26) rfl rfl (.moveX rfl) ?_
              refine RunT.gt0 (x := .v (.bool (decide (r3.2 = 0)))) rfl rfl rfl (bo g26) rfl rfl (.bin rfl rfl (fun w => b_eql w) rfl) ?_
              refine RunT.ot0 (x := .v (.bool (decide (r3.2 = 0)))) rfl rfl rfl rfl (.pickT (bo g26) rfl) ?_
              refine RunT.ot0 (x := .v (.bool (decide (r3.2 = 0)))) rfl rfl rfl rfl (.moveX rfl) ?_
              refine RunT.cases (t := 81) (c := decide (r3.2 = 0)) rfl (fun g27 => ?_) (fun g27 => ?_)
              · replace H := ct H g27
                refine RunT.gt0 (x := .agg [.v (.int .i64 r3.1.Kind), .v (.string r3.1.Text), .v (.int .i64 r3.1.Order.Id), .v (.int .i64 r3.1.Order.State), .v (.int .i64 r3.1.Order.Party.Size), .v (.int .i64 r3.1.Order.Party.Wheels), .v (.int .i64 r3.1.Order.Until), .v (.int .i64 r3.1.Order.First), .v (.int .i64 r3.1.Time)]) rfl rfl rfl (bo g27) rfl rfl (.loadP ty51 rfl rfl rfl) ?_
                refine RunT.gt0 (x := .agg [.v (.int .i64 2), .v (.string (⟨#[]⟩ : ByteArray)), .v (.int .i64 258), .v (.int .i64 1), .v (.int .i64 2), .v (.int .i64 0), .v (.int .i64 5), .v (.int .i64 (-1)), .v (.int .i64 0)]) rfl rfl rfl (bo g27) rfl rfl (.loadP ty51 rfl rfl rfl) ?_
                refine RunT.gt0 (x := .v (.bool (decide (r3.1 = Record.mk 2 (⟨#[]⟩ : ByteArray) (Order.mk 258 1 (Party.mk 2 0) 5 (-1)) 0)))) rfl rfl rfl (bo g27) rfl rfl (.binA (us := us_Record (r3.1)) (vs := us_Record (Record.mk 2 (⟨#[]⟩ : ByteArray) (Order.mk 258 1 (Party.mk 2 0) 5 (-1)) 0)) rfl rfl (fun w => eq_Record (r3.1) (Record.mk 2 (⟨#[]⟩ : ByteArray) (Order.mk 258 1 (Party.mk 2 0) 5 (-1)) 0) w) rfl) ?_
                refine RunT.ot0 (x := .v (.bool (decide (r3.1 = Record.mk 2 (⟨#[]⟩ : ByteArray) (Order.mk 258 1 (Party.mk 2 0) 5 (-1)) 0)))) rfl rfl rfl rfl (.pickT (bo g27) rfl) ?_
                refine RunT.ot0 (x := .v (.bool (decide (r3.1 = Record.mk 2 (⟨#[]⟩ : ByteArray) (Order.mk 258 1 (Party.mk 2 0) 5 (-1)) 0)))) rfl rfl rfl rfl (.moveX rfl) ?_
                refine RunT.cases (t := 86) (c := decide (r3.1 = Record.mk 2 (⟨#[]⟩ : ByteArray) (Order.mk 258 1 (Party.mk 2 0) 5 (-1)) 0)) rfl (fun g28 => ?_) (fun g28 => ?_)
                · replace H := ct H g28
                  refine RunT.gt0 (x := .v (.int .i64 r5.2)) rfl rfl rfl (bo g28) rfl rfl (.moveX rfl) ?_
                  refine RunT.gt0 (x := .v (.bool (decide (r5.2 = 0)))) rfl rfl rfl (bo g28) rfl rfl (.bin rfl rfl (fun w => b_eql w) rfl) ?_
                  refine RunT.ot0 (x := .v (.bool (decide (r5.2 = 0)))) rfl rfl rfl rfl (.pickT (bo g28) rfl) ?_
                  refine RunT.ot0 (x := .v (.bool (decide (r5.2 = 0)))) rfl rfl rfl rfl (.moveX rfl) ?_
                  refine RunT.cases (t := 90) (c := decide (r5.2 = 0)) rfl (fun g29 => ?_) (fun g29 => ?_)
                  · replace H := ct H g29
                    refine RunT.gt0 (x := .lst (List.map eU8 r5.1)) rfl rfl rfl (bo g29) rfl rfl (.moveX rfl) ?_
                    refine RunT.gt0 (x := .v (.string (strOf r5.1))) rfl rfl rfl (bo g29) rfl rfl (.toStrm (d := false) (m := r5.1) (f := eU8) Try.underlying35 Try.underlying5 Try.underlying9 rfl (.lstm Try.underlying35 enc_U8) (fun _ => rfl)) ?_
                    refine RunT.gt0 (x := .v (.bool ((strOf r5.1) == (⟨#[4]⟩ : ByteArray)))) rfl rfl rfl (bo g29) rfl rfl (.bin rfl rfl (fun w => eqStr w) rfl) ?_
                    refine RunT.ot0 (x := .v (.bool ((strOf r5.1) == (⟨#[4]⟩ : ByteArray)))) rfl rfl rfl rfl (.pickT (bo g29) rfl) ?_
                    refine RunT.ot0 (x := .v (.bool ((strOf r5.1) == (⟨#[4]⟩ : ByteArray)))) rfl rfl rfl rfl (.moveX rfl) ?_
                    refine RunT.cases (t := 95) (c := (strOf r5.1) == (⟨#[4]⟩ : ByteArray)) rfl (fun g30 => ?_) (fun g30 => ?_)
                    · replace H := ct H g30
                      refine RunT.gt0 (x := .v (.int .i64 r7.2)) rfl rfl rfl (bo g30) rfl rfl (.moveX rfl) ?_
                      refine RunT.gt0 (x := .v (.bool (decide (r7.2 = 1)))) rfl rfl rfl (bo g30) rfl rfl (.bin rfl rfl (fun w => b_eql w) rfl) ?_
                      refine RunT.ot0 (x := .v (.bool (decide (r7.2 = 1)))) rfl rfl rfl rfl (.pickT (bo g30) rfl) ?_
                      refine RunT.ot0 (x := .v (.bool (decide (r7.2 = 1)))) rfl rfl rfl rfl (.moveX rfl) ?_
                      refine RunT.cases (t := 99) (c := decide (r7.2 = 1)) rfl (fun g31 => ?_) (fun g31 => ?_)
                      · replace H := ct H g31
                        refine RunT.gt0 (x := .v (.int .i64 r9.2)) rfl rfl rfl (bo g31) rfl rfl (.moveX rfl) ?_
                        refine RunT.gt0 (x := .v (.bool (decide (r9.2 = 10)))) rfl rfl rfl (bo g31) rfl rfl (.bin rfl rfl (fun w => b_eql w) rfl) ?_
                        refine RunT.ot0 (x := .v (.bool (decide (r9.2 = 10)))) rfl rfl rfl rfl (.pickT (bo g31) rfl) ?_
                        refine RunT.ot0 (x := .v (.bool (decide (r9.2 = 10)))) rfl rfl rfl rfl (.moveX rfl) ?_
                        refine RunT.cases (t := 103) (c := decide (r9.2 = 10)) rfl (fun g32 => ?_) (fun g32 => ?_)
                        · replace H := ct H g32
                          refine RunT.gt0 (x := .v (.int .i64 r11.2)) rfl rfl rfl (bo g32) rfl rfl (.moveX rfl) ?_
                          refine RunT.gt0 (x := .v (.bool (decide (r11.2 = 10)))) rfl rfl rfl (bo g32) rfl rfl (.bin rfl rfl (fun w => b_eql w) rfl) ?_
                          refine RunT.ot0 (x := .v (.bool (decide (r11.2 = 10)))) rfl rfl rfl rfl (.pickT (bo g32) rfl) ?_
                          refine RunT.ot0 (x := .v (.bool (decide (r11.2 = 10)))) rfl rfl rfl rfl (.moveX rfl) ?_
                          refine RunT.cases (t := 107) (c := decide (r11.2 = 10)) rfl (fun g33 => ?_) (fun g33 => ?_)
                          · replace H := ct H g33
                            refine RunT.gt0 (x := .agg [.v (.int .i64 2), .v (.string (⟨#[]⟩ : ByteArray)), .v (.int .i64 258), .v (.int .i64 1), .v (.int .i64 2), .v (.int .i64 0), .v (.int .i64 5), .v (.int .i64 (-1)), .v (.int .i64 0)]) rfl rfl rfl (bo g33) rfl rfl (.loadP ty51 rfl rfl rfl) ?_
                            obtain ⟨r34, h35, H⟩ := bs H
                            refine RunT.gt0 (x := .v (.bool r34)) rfl rfl rfl (bo g33) rfl rfl (.callp (record_May_pc false k (Record.mk 2 (⟨#[]⟩ : ByteArray) (Order.mk 258 1 (Party.mk 2 0) 5 (-1)) 0) r34 h35) rfl ⟨(.agg' ⟨.v, .v, .v, .v, .v, .v, .v, .v, .v, trivial⟩), trivial⟩ rfl rfl rfl) ?_
                            refine RunT.ot0 (x := .v (.bool r34)) rfl rfl rfl rfl (.pickT (bo g33) rfl) ?_
                            refine RunT.ot0 (x := .v (.bool r34)) rfl rfl rfl rfl (.moveX rfl) ?_
                            refine RunT.cases (t := 111) (c := r34) rfl (fun g36 => ?_) (fun g36 => ?_)
                            · replace H := ct H g36
                              refine RunT.gt0 (x := .agg [.v (.int .i64 3), .v (.string (⟨#[]⟩ : ByteArray)), .v (.int .i64 0), .v (.int .i64 0), .v (.int .i64 0), .v (.int .i64 0), .v (.int .i64 0), .v (.int .i64 0), .v (.int .i64 (-1))]) rfl rfl rfl (bo g36) rfl rfl (.bu bu51 rfl) ?_
                              obtain ⟨r37, h38, H⟩ := bs H
                              refine RunT.gt0 (x := .v (.bool r37)) rfl rfl rfl (bo g36) rfl rfl (.callp (record_May_pc false k (Record.mk 3 (⟨#[]⟩ : ByteArray) (Order.mk 0 0 (Party.mk 0 0) 0 0) (-1)) r37 h38) rfl ⟨(.agg' ⟨.v, .v, .v, .v, .v, .v, .v, .v, .v, trivial⟩), trivial⟩ rfl rfl rfl) ?_
                              refine RunT.gt0 (x := .v (.bool (!r37))) rfl rfl rfl (bo g36) rfl rfl (.un rfl (fun w => u_not w) rfl) ?_
                              refine RunT.ot0 (x := .v (.bool (!r37))) rfl rfl rfl rfl (.pickT (bo g36) rfl) ?_
                              refine RunT.ot0 (x := .v (.bool (!r37))) rfl rfl rfl rfl (.moveX rfl) ?_
                              refine RunT.cases (t := 116) (c := !r37) rfl (fun g39 => ?_) (fun g39 => ?_)
                              · replace H := ct H g39
                                refine RunT.gt0 (x := .agg [.v (.int .i64 2), .v (.string (⟨#[]⟩ : ByteArray)), .v (.int .i64 258), .v (.int .i64 1), .v (.int .i64 2), .v (.int .i64 0), .v (.int .i64 5), .v (.int .i64 (-1)), .v (.int .i64 0)]) rfl rfl rfl (bo g39) rfl rfl (.loadP ty51 rfl rfl rfl) ?_
                                refine RunT.gt0 (x := .agg [.v (.int .i64 r3.1.Kind), .v (.string r3.1.Text), .v (.int .i64 r3.1.Order.Id), .v (.int .i64 r3.1.Order.State), .v (.int .i64 r3.1.Order.Party.Size), .v (.int .i64 r3.1.Order.Party.Wheels), .v (.int .i64 r3.1.Order.Until), .v (.int .i64 r3.1.Order.First), .v (.int .i64 r3.1.Time)]) rfl rfl rfl (bo g39) rfl rfl (.loadP ty51 rfl rfl rfl) ?_
                                obtain ⟨r40, h41, H⟩ := bs H
                                refine RunT.gt0 (x := .v (.bool r40)) rfl rfl rfl (bo g39) rfl rfl (.callp (record_Same_pc false k (Record.mk 2 (⟨#[]⟩ : ByteArray) (Order.mk 258 1 (Party.mk 2 0) 5 (-1)) 0) r3.1 r40 h41) rfl ⟨(.agg' ⟨.v, .v, .v, .v, .v, .v, .v, .v, .v, trivial⟩), (.agg' ⟨.v, .v, .v, .v, .v, .v, .v, .v, .v, trivial⟩), trivial⟩ rfl rfl rfl) ?_
                                refine RunT.ot0 (x := .v (.bool r40)) rfl rfl rfl rfl (.pickT (bo g39) rfl) ?_
                                refine RunT.ot0 (x := .v (.bool r40)) rfl rfl rfl rfl (.moveX rfl) ?_
                                refine RunT.cases (t := 121) (c := r40) rfl (fun g42 => ?_) (fun g42 => ?_)
                                · replace H := ct H g42
                                  refine RunT.gt0 (x := .agg [.v (.int .i64 2), .v (.string (⟨#[]⟩ : ByteArray)), .v (.int .i64 258), .v (.int .i64 1), .v (.int .i64 2), .v (.int .i64 0), .v (.int .i64 5), .v (.int .i64 (-1)), .v (.int .i64 0)]) rfl rfl rfl (bo g42) rfl rfl (.loadP ty51 rfl rfl rfl) ?_
                                  refine RunT.gt0 (x := .agg [.v (.int .i64 0), .v (.string (⟨#[]⟩ : ByteArray)), .v (.int .i64 0), .v (.int .i64 0), .v (.int .i64 0), .v (.int .i64 0), .v (.int .i64 0), .v (.int .i64 0), .v (.int .i64 0)]) rfl rfl rfl (bo g42) rfl rfl (.bu bu51 rfl) ?_
                                  obtain ⟨r43, h44, H⟩ := bs H
                                  refine RunT.gt0 (x := .v (.bool r43)) rfl rfl rfl (bo g42) rfl rfl (.callp (record_Same_pc false k (Record.mk 2 (⟨#[]⟩ : ByteArray) (Order.mk 258 1 (Party.mk 2 0) 5 (-1)) 0) (Record.mk 0 (⟨#[]⟩ : ByteArray) (Order.mk 0 0 (Party.mk 0 0) 0 0) 0) r43 h44) rfl ⟨(.agg' ⟨.v, .v, .v, .v, .v, .v, .v, .v, .v, trivial⟩), (.agg' ⟨.v, .v, .v, .v, .v, .v, .v, .v, .v, trivial⟩), trivial⟩ rfl rfl rfl) ?_
                                  refine RunT.gt0 (x := .v (.bool (!r43))) rfl rfl rfl (bo g42) rfl rfl (.un rfl (fun w => u_not w) rfl) ?_
                                  refine RunT.ot0 (x := .v (.bool (!r43))) rfl rfl rfl rfl (.pickT (bo g42) rfl) ?_
                                  refine RunT.ot0 (x := .v (.bool (!r43))) rfl rfl rfl rfl (.assignX rfl) ?_
                                  refine RunT.nil ?_
                                  obtain rfl := si H
                                  refine T.sub (sub_to (st' := ⟨[(0, .v (.bool (!r43)))], [], 8, []⟩) [] (by decide) rfl rfl (⟨⟨_, rfl, .one .v⟩, trivial⟩) (trivial)) ?_
                                  refine T.ret ?_
                                  exact RetOk.same [.v (.bool (!r43))] ⟨rfl, trivial⟩ rfl rfl rfl
                                · replace H := cf H g42
                                  refine RunT.xn rfl rfl rfl (bo g42) rfl rfl ?_
                                  refine RunT.xn rfl rfl rfl (bo g42) rfl rfl ?_
                                  refine RunT.xn rfl rfl rfl (bo g42) rfl rfl ?_
                                  refine RunT.xn rfl rfl rfl (bo g42) rfl rfl ?_
                                  refine RunT.ot0 (x := .v (.bool false)) rfl rfl rfl rfl (.pickF (bo g42) rfl) ?_
                                  refine RunT.ot0 (x := .v (.bool false)) rfl rfl rfl rfl (.assignX rfl) ?_
                                  refine RunT.nil ?_
                                  obtain rfl := si H
                                  refine T.sub (sub_to (st' := ⟨[(0, .v (.bool false))], [], 8, []⟩) [] (by decide) rfl rfl (⟨⟨_, rfl, .one .v⟩, trivial⟩) (trivial)) ?_
                                  refine T.ret ?_
                                  exact RetOk.same [.v (.bool false)] ⟨rfl, trivial⟩ rfl rfl rfl
                              · replace H := cf H g39
                                refine RunT.xn rfl rfl rfl (bo g39) rfl rfl ?_
                                refine RunT.xn rfl rfl rfl (bo g39) rfl rfl ?_
                                refine RunT.xn rfl rfl rfl (bo g39) rfl rfl ?_
                                refine RunT.ot0 (x := .v (.bool false)) rfl rfl rfl rfl (.pickF (bo g39) rfl) ?_
                                refine RunT.ot0 (x := .v (.bool false)) rfl rfl rfl rfl (.moveX rfl) ?_
                                refine RunT.xn rfl rfl rfl rfl rfl rfl ?_
                                refine RunT.xn rfl rfl rfl rfl rfl rfl ?_
                                refine RunT.xn rfl rfl rfl rfl rfl rfl ?_
                                refine RunT.xn rfl rfl rfl rfl rfl rfl ?_
                                refine RunT.ot0 (x := .v (.bool false)) rfl rfl rfl rfl (.pickF rfl rfl) ?_
                                refine RunT.ot0 (x := .v (.bool false)) rfl rfl rfl rfl (.assignX rfl) ?_
                                refine RunT.nil ?_
                                obtain rfl := si H
                                refine T.sub (sub_to (st' := ⟨[(0, .v (.bool false))], [], 8, []⟩) [] (by decide) rfl rfl (⟨⟨_, rfl, .one .v⟩, trivial⟩) (trivial)) ?_
                                refine T.ret ?_
                                exact RetOk.same [.v (.bool false)] ⟨rfl, trivial⟩ rfl rfl rfl
                            · replace H := cf H g36
                              refine RunT.xn rfl rfl rfl (bo g36) rfl rfl ?_
                              refine RunT.xn rfl rfl rfl (bo g36) rfl rfl ?_
                              refine RunT.xn rfl rfl rfl (bo g36) rfl rfl ?_
                              refine RunT.ot0 (x := .v (.bool false)) rfl rfl rfl rfl (.pickF (bo g36) rfl) ?_
                              refine RunT.ot0 (x := .v (.bool false)) rfl rfl rfl rfl (.moveX rfl) ?_
                              refine RunT.xn rfl rfl rfl rfl rfl rfl ?_
                              refine RunT.xn rfl rfl rfl rfl rfl rfl ?_
                              refine RunT.xn rfl rfl rfl rfl rfl rfl ?_
                              refine RunT.ot0 (x := .v (.bool false)) rfl rfl rfl rfl (.pickF rfl rfl) ?_
                              refine RunT.ot0 (x := .v (.bool false)) rfl rfl rfl rfl (.moveX rfl) ?_
                              refine RunT.xn rfl rfl rfl rfl rfl rfl ?_
                              refine RunT.xn rfl rfl rfl rfl rfl rfl ?_
                              refine RunT.xn rfl rfl rfl rfl rfl rfl ?_
                              refine RunT.xn rfl rfl rfl rfl rfl rfl ?_
                              refine RunT.ot0 (x := .v (.bool false)) rfl rfl rfl rfl (.pickF rfl rfl) ?_
                              refine RunT.ot0 (x := .v (.bool false)) rfl rfl rfl rfl (.assignX rfl) ?_
                              refine RunT.nil ?_
                              obtain rfl := si H
                              refine T.sub (sub_to (st' := ⟨[(0, .v (.bool false))], [], 8, []⟩) [] (by decide) rfl rfl (⟨⟨_, rfl, .one .v⟩, trivial⟩) (trivial)) ?_
                              refine T.ret ?_
                              exact RetOk.same [.v (.bool false)] ⟨rfl, trivial⟩ rfl rfl rfl
                          · replace H := cf H g33
                            refine RunT.xn rfl rfl rfl (bo g33) rfl rfl ?_
                            refine RunT.xn rfl rfl rfl (bo g33) rfl rfl ?_
                            refine RunT.ot0 (x := .v (.bool false)) rfl rfl rfl rfl (.pickF (bo g33) rfl) ?_
                            refine RunT.ot0 (x := .v (.bool false)) rfl rfl rfl rfl (.moveX rfl) ?_
                            refine RunT.xn rfl rfl rfl rfl rfl rfl ?_
                            refine RunT.xn rfl rfl rfl rfl rfl rfl ?_
                            refine RunT.xn rfl rfl rfl rfl rfl rfl ?_
                            refine RunT.ot0 (x := .v (.bool false)) rfl rfl rfl rfl (.pickF rfl rfl) ?_
                            refine RunT.ot0 (x := .v (.bool false)) rfl rfl rfl rfl (.moveX rfl) ?_
                            refine RunT.xn rfl rfl rfl rfl rfl rfl ?_
                            refine RunT.xn rfl rfl rfl rfl rfl rfl ?_
                            refine RunT.xn rfl rfl rfl rfl rfl rfl ?_
                            refine RunT.ot0 (x := .v (.bool false)) rfl rfl rfl rfl (.pickF rfl rfl) ?_
                            refine RunT.ot0 (x := .v (.bool false)) rfl rfl rfl rfl (.moveX rfl) ?_
                            refine RunT.xn rfl rfl rfl rfl rfl rfl ?_
                            refine RunT.xn rfl rfl rfl rfl rfl rfl ?_
                            refine RunT.xn rfl rfl rfl rfl rfl rfl ?_
                            refine RunT.xn rfl rfl rfl rfl rfl rfl ?_
                            refine RunT.ot0 (x := .v (.bool false)) rfl rfl rfl rfl (.pickF rfl rfl) ?_
                            refine RunT.ot0 (x := .v (.bool false)) rfl rfl rfl rfl (.assignX rfl) ?_
                            refine RunT.nil ?_
                            obtain rfl := si H
                            refine T.sub (sub_to (st' := ⟨[(0, .v (.bool false))], [], 8, []⟩) [] (by decide) rfl rfl (⟨⟨_, rfl, .one .v⟩, trivial⟩) (trivial)) ?_
                            refine T.ret ?_
                            exact RetOk.same [.v (.bool false)] ⟨rfl, trivial⟩ rfl rfl rfl
                        · replace H := cf H g32
                          refine RunT.xn rfl rfl rfl (bo g32) rfl rfl ?_
                          refine RunT.xn rfl rfl rfl (bo g32) rfl rfl ?_
                          refine RunT.ot0 (x := .v (.bool false)) rfl rfl rfl rfl (.pickF (bo g32) rfl) ?_
                          refine RunT.ot0 (x := .v (.bool false)) rfl rfl rfl rfl (.moveX rfl) ?_
                          refine RunT.xn rfl rfl rfl rfl rfl rfl ?_
                          refine RunT.xn rfl rfl rfl rfl rfl rfl ?_
                          refine RunT.ot0 (x := .v (.bool false)) rfl rfl rfl rfl (.pickF rfl rfl) ?_
                          refine RunT.ot0 (x := .v (.bool false)) rfl rfl rfl rfl (.moveX rfl) ?_
                          refine RunT.xn rfl rfl rfl rfl rfl rfl ?_
                          refine RunT.xn rfl rfl rfl rfl rfl rfl ?_
                          refine RunT.xn rfl rfl rfl rfl rfl rfl ?_
                          refine RunT.ot0 (x := .v (.bool false)) rfl rfl rfl rfl (.pickF rfl rfl) ?_
                          refine RunT.ot0 (x := .v (.bool false)) rfl rfl rfl rfl (.moveX rfl) ?_
                          refine RunT.xn rfl rfl rfl rfl rfl rfl ?_
                          refine RunT.xn rfl rfl rfl rfl rfl rfl ?_
                          refine RunT.xn rfl rfl rfl rfl rfl rfl ?_
                          refine RunT.ot0 (x := .v (.bool false)) rfl rfl rfl rfl (.pickF rfl rfl) ?_
                          refine RunT.ot0 (x := .v (.bool false)) rfl rfl rfl rfl (.moveX rfl) ?_
                          refine RunT.xn rfl rfl rfl rfl rfl rfl ?_
                          refine RunT.xn rfl rfl rfl rfl rfl rfl ?_
                          refine RunT.xn rfl rfl rfl rfl rfl rfl ?_
                          refine RunT.xn rfl rfl rfl rfl rfl rfl ?_
                          refine RunT.ot0 (x := .v (.bool false)) rfl rfl rfl rfl (.pickF rfl rfl) ?_
                          refine RunT.ot0 (x := .v (.bool false)) rfl rfl rfl rfl (.assignX rfl) ?_
                          refine RunT.nil ?_
                          obtain rfl := si H
                          refine T.sub (sub_to (st' := ⟨[(0, .v (.bool false))], [], 8, []⟩) [] (by decide) rfl rfl (⟨⟨_, rfl, .one .v⟩, trivial⟩) (trivial)) ?_
                          refine T.ret ?_
                          exact RetOk.same [.v (.bool false)] ⟨rfl, trivial⟩ rfl rfl rfl
                      · replace H := cf H g31
                        refine RunT.xn rfl rfl rfl (bo g31) rfl rfl ?_
                        refine RunT.xn rfl rfl rfl (bo g31) rfl rfl ?_
                        refine RunT.ot0 (x := .v (.bool false)) rfl rfl rfl rfl (.pickF (bo g31) rfl) ?_
                        refine RunT.ot0 (x := .v (.bool false)) rfl rfl rfl rfl (.moveX rfl) ?_
                        refine RunT.xn rfl rfl rfl rfl rfl rfl ?_
                        refine RunT.xn rfl rfl rfl rfl rfl rfl ?_
                        refine RunT.ot0 (x := .v (.bool false)) rfl rfl rfl rfl (.pickF rfl rfl) ?_
                        refine RunT.ot0 (x := .v (.bool false)) rfl rfl rfl rfl (.moveX rfl) ?_
                        refine RunT.xn rfl rfl rfl rfl rfl rfl ?_
                        refine RunT.xn rfl rfl rfl rfl rfl rfl ?_
                        refine RunT.ot0 (x := .v (.bool false)) rfl rfl rfl rfl (.pickF rfl rfl) ?_
                        refine RunT.ot0 (x := .v (.bool false)) rfl rfl rfl rfl (.moveX rfl) ?_
                        refine RunT.xn rfl rfl rfl rfl rfl rfl ?_
                        refine RunT.xn rfl rfl rfl rfl rfl rfl ?_
                        refine RunT.xn rfl rfl rfl rfl rfl rfl ?_
                        refine RunT.ot0 (x := .v (.bool false)) rfl rfl rfl rfl (.pickF rfl rfl) ?_
                        refine RunT.ot0 (x := .v (.bool false)) rfl rfl rfl rfl (.moveX rfl) ?_
                        refine RunT.xn rfl rfl rfl rfl rfl rfl ?_
                        refine RunT.xn rfl rfl rfl rfl rfl rfl ?_
                        refine RunT.xn rfl rfl rfl rfl rfl rfl ?_
                        refine RunT.ot0 (x := .v (.bool false)) rfl rfl rfl rfl (.pickF rfl rfl) ?_
                        refine RunT.ot0 (x := .v (.bool false)) rfl rfl rfl rfl (.moveX rfl) ?_
                        refine RunT.xn rfl rfl rfl rfl rfl rfl ?_
                        refine RunT.xn rfl rfl rfl rfl rfl rfl ?_
                        refine RunT.xn rfl rfl rfl rfl rfl rfl ?_
                        refine RunT.xn rfl rfl rfl rfl rfl rfl ?_
                        refine RunT.ot0 (x := .v (.bool false)) rfl rfl rfl rfl (.pickF rfl rfl) ?_
                        refine RunT.ot0 (x := .v (.bool false)) rfl rfl rfl rfl (.assignX rfl) ?_
                        refine RunT.nil ?_
                        obtain rfl := si H
                        refine T.sub (sub_to (st' := ⟨[(0, .v (.bool false))], [], 8, []⟩) [] (by decide) rfl rfl (⟨⟨_, rfl, .one .v⟩, trivial⟩) (trivial)) ?_
                        refine T.ret ?_
                        exact RetOk.same [.v (.bool false)] ⟨rfl, trivial⟩ rfl rfl rfl
                    · replace H := cf H g30
                      refine RunT.xn rfl rfl rfl (bo g30) rfl rfl ?_
                      refine RunT.xn rfl rfl rfl (bo g30) rfl rfl ?_
                      refine RunT.ot0 (x := .v (.bool false)) rfl rfl rfl rfl (.pickF (bo g30) rfl) ?_
                      refine RunT.ot0 (x := .v (.bool false)) rfl rfl rfl rfl (.moveX rfl) ?_
                      refine RunT.xn rfl rfl rfl rfl rfl rfl ?_
                      refine RunT.xn rfl rfl rfl rfl rfl rfl ?_
                      refine RunT.ot0 (x := .v (.bool false)) rfl rfl rfl rfl (.pickF rfl rfl) ?_
                      refine RunT.ot0 (x := .v (.bool false)) rfl rfl rfl rfl (.moveX rfl) ?_
                      refine RunT.xn rfl rfl rfl rfl rfl rfl ?_
                      refine RunT.xn rfl rfl rfl rfl rfl rfl ?_
                      refine RunT.ot0 (x := .v (.bool false)) rfl rfl rfl rfl (.pickF rfl rfl) ?_
                      refine RunT.ot0 (x := .v (.bool false)) rfl rfl rfl rfl (.moveX rfl) ?_
                      refine RunT.xn rfl rfl rfl rfl rfl rfl ?_
                      refine RunT.xn rfl rfl rfl rfl rfl rfl ?_
                      refine RunT.ot0 (x := .v (.bool false)) rfl rfl rfl rfl (.pickF rfl rfl) ?_
                      refine RunT.ot0 (x := .v (.bool false)) rfl rfl rfl rfl (.moveX rfl) ?_
                      refine RunT.xn rfl rfl rfl rfl rfl rfl ?_
                      refine RunT.xn rfl rfl rfl rfl rfl rfl ?_
                      refine RunT.xn rfl rfl rfl rfl rfl rfl ?_
                      refine RunT.ot0 (x := .v (.bool false)) rfl rfl rfl rfl (.pickF rfl rfl) ?_
                      refine RunT.ot0 (x := .v (.bool false)) rfl rfl rfl rfl (.moveX rfl) ?_
                      refine RunT.xn rfl rfl rfl rfl rfl rfl ?_
                      refine RunT.xn rfl rfl rfl rfl rfl rfl ?_
                      refine RunT.xn rfl rfl rfl rfl rfl rfl ?_
                      refine RunT.ot0 (x := .v (.bool false)) rfl rfl rfl rfl (.pickF rfl rfl) ?_
                      refine RunT.ot0 (x := .v (.bool false)) rfl rfl rfl rfl (.moveX rfl) ?_
                      refine RunT.xn rfl rfl rfl rfl rfl rfl ?_
                      refine RunT.xn rfl rfl rfl rfl rfl rfl ?_
                      refine RunT.xn rfl rfl rfl rfl rfl rfl ?_
                      refine RunT.xn rfl rfl rfl rfl rfl rfl ?_
                      refine RunT.ot0 (x := .v (.bool false)) rfl rfl rfl rfl (.pickF rfl rfl) ?_
                      refine RunT.ot0 (x := .v (.bool false)) rfl rfl rfl rfl (.assignX rfl) ?_
                      refine RunT.nil ?_
                      obtain rfl := si H
                      refine T.sub (sub_to (st' := ⟨[(0, .v (.bool false))], [], 8, []⟩) [] (by decide) rfl rfl (⟨⟨_, rfl, .one .v⟩, trivial⟩) (trivial)) ?_
                      refine T.ret ?_
                      exact RetOk.same [.v (.bool false)] ⟨rfl, trivial⟩ rfl rfl rfl
                  · replace H := cf H g29
                    refine RunT.xn rfl rfl rfl (bo g29) rfl rfl ?_
                    refine RunT.xn rfl rfl rfl (bo g29) rfl rfl ?_
                    refine RunT.xn rfl rfl rfl (bo g29) rfl rfl ?_
                    refine RunT.ot0 (x := .v (.bool false)) rfl rfl rfl rfl (.pickF (bo g29) rfl) ?_
                    refine RunT.ot0 (x := .v (.bool false)) rfl rfl rfl rfl (.moveX rfl) ?_
                    refine RunT.xn rfl rfl rfl rfl rfl rfl ?_
                    refine RunT.xn rfl rfl rfl rfl rfl rfl ?_
                    refine RunT.ot0 (x := .v (.bool false)) rfl rfl rfl rfl (.pickF rfl rfl) ?_
                    refine RunT.ot0 (x := .v (.bool false)) rfl rfl rfl rfl (.moveX rfl) ?_
                    refine RunT.xn rfl rfl rfl rfl rfl rfl ?_
                    refine RunT.xn rfl rfl rfl rfl rfl rfl ?_
                    refine RunT.ot0 (x := .v (.bool false)) rfl rfl rfl rfl (.pickF rfl rfl) ?_
                    refine RunT.ot0 (x := .v (.bool false)) rfl rfl rfl rfl (.moveX rfl) ?_
                    refine RunT.xn rfl rfl rfl rfl rfl rfl ?_
                    refine RunT.xn rfl rfl rfl rfl rfl rfl ?_
                    refine RunT.ot0 (x := .v (.bool false)) rfl rfl rfl rfl (.pickF rfl rfl) ?_
                    refine RunT.ot0 (x := .v (.bool false)) rfl rfl rfl rfl (.moveX rfl) ?_
                    refine RunT.xn rfl rfl rfl rfl rfl rfl ?_
                    refine RunT.xn rfl rfl rfl rfl rfl rfl ?_
                    refine RunT.ot0 (x := .v (.bool false)) rfl rfl rfl rfl (.pickF rfl rfl) ?_
                    refine RunT.ot0 (x := .v (.bool false)) rfl rfl rfl rfl (.moveX rfl) ?_
                    refine RunT.xn rfl rfl rfl rfl rfl rfl ?_
                    refine RunT.xn rfl rfl rfl rfl rfl rfl ?_
                    refine RunT.xn rfl rfl rfl rfl rfl rfl ?_
                    refine RunT.ot0 (x := .v (.bool false)) rfl rfl rfl rfl (.pickF rfl rfl) ?_
                    refine RunT.ot0 (x := .v (.bool false)) rfl rfl rfl rfl (.moveX rfl) ?_
                    refine RunT.xn rfl rfl rfl rfl rfl rfl ?_
                    refine RunT.xn rfl rfl rfl rfl rfl rfl ?_
                    refine RunT.xn rfl rfl rfl rfl rfl rfl ?_
                    refine RunT.ot0 (x := .v (.bool false)) rfl rfl rfl rfl (.pickF rfl rfl) ?_
                    refine RunT.ot0 (x := .v (.bool false)) rfl rfl rfl rfl (.moveX rfl) ?_
                    refine RunT.xn rfl rfl rfl rfl rfl rfl ?_
                    refine RunT.xn rfl rfl rfl rfl rfl rfl ?_
                    refine RunT.xn rfl rfl rfl rfl rfl rfl ?_
                    refine RunT.xn rfl rfl rfl rfl rfl rfl ?_
                    refine RunT.ot0 (x := .v (.bool false)) rfl rfl rfl rfl (.pickF rfl rfl) ?_
                    refine RunT.ot0 (x := .v (.bool false)) rfl rfl rfl rfl (.assignX rfl) ?_
                    refine RunT.nil ?_
                    obtain rfl := si H
                    refine T.sub (sub_to (st' := ⟨[(0, .v (.bool false))], [], 8, []⟩) [] (by decide) rfl rfl (⟨⟨_, rfl, .one .v⟩, trivial⟩) (trivial)) ?_
                    refine T.ret ?_
                    exact RetOk.same [.v (.bool false)] ⟨rfl, trivial⟩ rfl rfl rfl
                · replace H := cf H g28
                  refine RunT.xn rfl rfl rfl (bo g28) rfl rfl ?_
                  refine RunT.xn rfl rfl rfl (bo g28) rfl rfl ?_
                  refine RunT.ot0 (x := .v (.bool false)) rfl rfl rfl rfl (.pickF (bo g28) rfl) ?_
                  refine RunT.ot0 (x := .v (.bool false)) rfl rfl rfl rfl (.moveX rfl) ?_
                  refine RunT.xn rfl rfl rfl rfl rfl rfl ?_
                  refine RunT.xn rfl rfl rfl rfl rfl rfl ?_
                  refine RunT.xn rfl rfl rfl rfl rfl rfl ?_
                  refine RunT.ot0 (x := .v (.bool false)) rfl rfl rfl rfl (.pickF rfl rfl) ?_
                  refine RunT.ot0 (x := .v (.bool false)) rfl rfl rfl rfl (.moveX rfl) ?_
                  refine RunT.xn rfl rfl rfl rfl rfl rfl ?_
                  refine RunT.xn rfl rfl rfl rfl rfl rfl ?_
                  refine RunT.ot0 (x := .v (.bool false)) rfl rfl rfl rfl (.pickF rfl rfl) ?_
                  refine RunT.ot0 (x := .v (.bool false)) rfl rfl rfl rfl (.moveX rfl) ?_
                  refine RunT.xn rfl rfl rfl rfl rfl rfl ?_
                  refine RunT.xn rfl rfl rfl rfl rfl rfl ?_
                  refine RunT.ot0 (x := .v (.bool false)) rfl rfl rfl rfl (.pickF rfl rfl) ?_
                  refine RunT.ot0 (x := .v (.bool false)) rfl rfl rfl rfl (.moveX rfl) ?_
                  refine RunT.xn rfl rfl rfl rfl rfl rfl ?_
                  refine RunT.xn rfl rfl rfl rfl rfl rfl ?_
                  refine RunT.ot0 (x := .v (.bool false)) rfl rfl rfl rfl (.pickF rfl rfl) ?_
                  refine RunT.ot0 (x := .v (.bool false)) rfl rfl rfl rfl (.moveX rfl) ?_
                  refine RunT.xn rfl rfl rfl rfl rfl rfl ?_
                  refine RunT.xn rfl rfl rfl rfl rfl rfl ?_
                  refine RunT.ot0 (x := .v (.bool false)) rfl rfl rfl rfl (.pickF rfl rfl) ?_
                  refine RunT.ot0 (x := .v (.bool false)) rfl rfl rfl rfl (.moveX rfl) ?_
                  refine RunT.xn rfl rfl rfl rfl rfl rfl ?_
                  refine RunT.xn rfl rfl rfl rfl rfl rfl ?_
                  refine RunT.xn rfl rfl rfl rfl rfl rfl ?_
                  refine RunT.ot0 (x := .v (.bool false)) rfl rfl rfl rfl (.pickF rfl rfl) ?_
                  refine RunT.ot0 (x := .v (.bool false)) rfl rfl rfl rfl (.moveX rfl) ?_
                  refine RunT.xn rfl rfl rfl rfl rfl rfl ?_
                  refine RunT.xn rfl rfl rfl rfl rfl rfl ?_
                  refine RunT.xn rfl rfl rfl rfl rfl rfl ?_
                  refine RunT.ot0 (x := .v (.bool false)) rfl rfl rfl rfl (.pickF rfl rfl) ?_
                  refine RunT.ot0 (x := .v (.bool false)) rfl rfl rfl rfl (.moveX rfl) ?_
                  refine RunT.xn rfl rfl rfl rfl rfl rfl ?_
                  refine RunT.xn rfl rfl rfl rfl rfl rfl ?_
                  refine RunT.xn rfl rfl rfl rfl rfl rfl ?_
                  refine RunT.xn rfl rfl rfl rfl rfl rfl ?_
                  refine RunT.ot0 (x := .v (.bool false)) rfl rfl rfl rfl (.pickF rfl rfl) ?_
                  refine RunT.ot0 (x := .v (.bool false)) rfl rfl rfl rfl (.assignX rfl) ?_
                  refine RunT.nil ?_
                  obtain rfl := si H
                  refine T.sub (sub_to (st' := ⟨[(0, .v (.bool false))], [], 8, []⟩) [] (by decide) rfl rfl (⟨⟨_, rfl, .one .v⟩, trivial⟩) (trivial)) ?_
                  refine T.ret ?_
                  exact RetOk.same [.v (.bool false)] ⟨rfl, trivial⟩ rfl rfl rfl
              · replace H := cf H g27
                refine RunT.xn rfl rfl rfl (bo g27) rfl rfl ?_
                refine RunT.xn rfl rfl rfl (bo g27) rfl rfl ?_
                refine RunT.xn rfl rfl rfl (bo g27) rfl rfl ?_
                refine RunT.ot0 (x := .v (.bool false)) rfl rfl rfl rfl (.pickF (bo g27) rfl) ?_
                refine RunT.ot0 (x := .v (.bool false)) rfl rfl rfl rfl (.moveX rfl) ?_
                refine RunT.xn rfl rfl rfl rfl rfl rfl ?_
                refine RunT.xn rfl rfl rfl rfl rfl rfl ?_
                refine RunT.ot0 (x := .v (.bool false)) rfl rfl rfl rfl (.pickF rfl rfl) ?_
                refine RunT.ot0 (x := .v (.bool false)) rfl rfl rfl rfl (.moveX rfl) ?_
                refine RunT.xn rfl rfl rfl rfl rfl rfl ?_
                refine RunT.xn rfl rfl rfl rfl rfl rfl ?_
                refine RunT.xn rfl rfl rfl rfl rfl rfl ?_
                refine RunT.ot0 (x := .v (.bool false)) rfl rfl rfl rfl (.pickF rfl rfl) ?_
                refine RunT.ot0 (x := .v (.bool false)) rfl rfl rfl rfl (.moveX rfl) ?_
                refine RunT.xn rfl rfl rfl rfl rfl rfl ?_
                refine RunT.xn rfl rfl rfl rfl rfl rfl ?_
                refine RunT.ot0 (x := .v (.bool false)) rfl rfl rfl rfl (.pickF rfl rfl) ?_
                refine RunT.ot0 (x := .v (.bool false)) rfl rfl rfl rfl (.moveX rfl) ?_
                refine RunT.xn rfl rfl rfl rfl rfl rfl ?_
                refine RunT.xn rfl rfl rfl rfl rfl rfl ?_
                refine RunT.ot0 (x := .v (.bool false)) rfl rfl rfl rfl (.pickF rfl rfl) ?_
                refine RunT.ot0 (x := .v (.bool false)) rfl rfl rfl rfl (.moveX rfl) ?_
                refine RunT.xn rfl rfl rfl rfl rfl rfl ?_
                refine RunT.xn rfl rfl rfl rfl rfl rfl ?_
                refine RunT.ot0 (x := .v (.bool false)) rfl rfl rfl rfl (.pickF rfl rfl) ?_
                refine RunT.ot0 (x := .v (.bool false)) rfl rfl rfl rfl (.moveX rfl) ?_
                refine RunT.xn rfl rfl rfl rfl rfl rfl ?_
                refine RunT.xn rfl rfl rfl rfl rfl rfl ?_
                refine RunT.ot0 (x := .v (.bool false)) rfl rfl rfl rfl (.pickF rfl rfl) ?_
                refine RunT.ot0 (x := .v (.bool false)) rfl rfl rfl rfl (.moveX rfl) ?_
                refine RunT.xn rfl rfl rfl rfl rfl rfl ?_
                refine RunT.xn rfl rfl rfl rfl rfl rfl ?_
                refine RunT.xn rfl rfl rfl rfl rfl rfl ?_
                refine RunT.ot0 (x := .v (.bool false)) rfl rfl rfl rfl (.pickF rfl rfl) ?_
                refine RunT.ot0 (x := .v (.bool false)) rfl rfl rfl rfl (.moveX rfl) ?_
                refine RunT.xn rfl rfl rfl rfl rfl rfl ?_
                refine RunT.xn rfl rfl rfl rfl rfl rfl ?_
                refine RunT.xn rfl rfl rfl rfl rfl rfl ?_
                refine RunT.ot0 (x := .v (.bool false)) rfl rfl rfl rfl (.pickF rfl rfl) ?_
                refine RunT.ot0 (x := .v (.bool false)) rfl rfl rfl rfl (.moveX rfl) ?_
                refine RunT.xn rfl rfl rfl rfl rfl rfl ?_
                refine RunT.xn rfl rfl rfl rfl rfl rfl ?_
                refine RunT.xn rfl rfl rfl rfl rfl rfl ?_
                refine RunT.xn rfl rfl rfl rfl rfl rfl ?_
                refine RunT.ot0 (x := .v (.bool false)) rfl rfl rfl rfl (.pickF rfl rfl) ?_
                refine RunT.ot0 (x := .v (.bool false)) rfl rfl rfl rfl (.assignX rfl) ?_
                refine RunT.nil ?_
                obtain rfl := si H
                refine T.sub (sub_to (st' := ⟨[(0, .v (.bool false))], [], 8, []⟩) [] (by decide) rfl rfl (⟨⟨_, rfl, .one .v⟩, trivial⟩) (trivial)) ?_
                refine T.ret ?_
                exact RetOk.same [.v (.bool false)] ⟨rfl, trivial⟩ rfl rfl rfl
            · replace H := cf H g26
              refine RunT.xn rfl rfl rfl (bo g26) rfl rfl ?_
              refine RunT.xn rfl rfl rfl (bo g26) rfl rfl ?_
              refine RunT.ot0 (x := .v (.bool false)) rfl rfl rfl rfl (.pickF (bo g26) rfl) ?_
              refine RunT.ot0 (x := .v (.bool false)) rfl rfl rfl rfl (.moveX rfl) ?_
              refine RunT.xn rfl rfl rfl rfl rfl rfl ?_
              refine RunT.xn rfl rfl rfl rfl rfl rfl ?_
              refine RunT.xn rfl rfl rfl rfl rfl rfl ?_
              refine RunT.ot0 (x := .v (.bool false)) rfl rfl rfl rfl (.pickF rfl rfl) ?_
              refine RunT.ot0 (x := .v (.bool false)) rfl rfl rfl rfl (.moveX rfl) ?_
              refine RunT.xn rfl rfl rfl rfl rfl rfl ?_
              refine RunT.xn rfl rfl rfl rfl rfl rfl ?_
              refine RunT.ot0 (x := .v (.bool false)) rfl rfl rfl rfl (.pickF rfl rfl) ?_
              refine RunT.ot0 (x := .v (.bool false)) rfl rfl rfl rfl (.moveX rfl) ?_
              refine RunT.xn rfl rfl rfl rfl rfl rfl ?_
              refine RunT.xn rfl rfl rfl rfl rfl rfl ?_
              refine RunT.xn rfl rfl rfl rfl rfl rfl ?_
              refine RunT.ot0 (x := .v (.bool false)) rfl rfl rfl rfl (.pickF rfl rfl) ?_
              refine RunT.ot0 (x := .v (.bool false)) rfl rfl rfl rfl (.moveX rfl) ?_
              refine RunT.xn rfl rfl rfl rfl rfl rfl ?_
              refine RunT.xn rfl rfl rfl rfl rfl rfl ?_
              refine RunT.ot0 (x := .v (.bool false)) rfl rfl rfl rfl (.pickF rfl rfl) ?_
              refine RunT.ot0 (x := .v (.bool false)) rfl rfl rfl rfl (.moveX rfl) ?_
              refine RunT.xn rfl rfl rfl rfl rfl rfl ?_
              refine RunT.xn rfl rfl rfl rfl rfl rfl ?_
              refine RunT.ot0 (x := .v (.bool false)) rfl rfl rfl rfl (.pickF rfl rfl) ?_
              refine RunT.ot0 (x := .v (.bool false)) rfl rfl rfl rfl (.moveX rfl) ?_
              refine RunT.xn rfl rfl rfl rfl rfl rfl ?_
              refine RunT.xn rfl rfl rfl rfl rfl rfl ?_
              refine RunT.ot0 (x := .v (.bool false)) rfl rfl rfl rfl (.pickF rfl rfl) ?_
              refine RunT.ot0 (x := .v (.bool false)) rfl rfl rfl rfl (.moveX rfl) ?_
              refine RunT.xn rfl rfl rfl rfl rfl rfl ?_
              refine RunT.xn rfl rfl rfl rfl rfl rfl ?_
              refine RunT.ot0 (x := .v (.bool false)) rfl rfl rfl rfl (.pickF rfl rfl) ?_
              refine RunT.ot0 (x := .v (.bool false)) rfl rfl rfl rfl (.moveX rfl) ?_
              refine RunT.xn rfl rfl rfl rfl rfl rfl ?_
              refine RunT.xn rfl rfl rfl rfl rfl rfl ?_
              refine RunT.xn rfl rfl rfl rfl rfl rfl ?_
              refine RunT.ot0 (x := .v (.bool false)) rfl rfl rfl rfl (.pickF rfl rfl) ?_
              refine RunT.ot0 (x := .v (.bool false)) rfl rfl rfl rfl (.moveX rfl) ?_
              refine RunT.xn rfl rfl rfl rfl rfl rfl ?_
              refine RunT.xn rfl rfl rfl rfl rfl rfl ?_
              refine RunT.xn rfl rfl rfl rfl rfl rfl ?_
              refine RunT.ot0 (x := .v (.bool false)) rfl rfl rfl rfl (.pickF rfl rfl) ?_
              refine RunT.ot0 (x := .v (.bool false)) rfl rfl rfl rfl (.moveX rfl) ?_
              refine RunT.xn rfl rfl rfl rfl rfl rfl ?_
              refine RunT.xn rfl rfl rfl rfl rfl rfl ?_
              refine RunT.xn rfl rfl rfl rfl rfl rfl ?_
              refine RunT.xn rfl rfl rfl rfl rfl rfl ?_
              refine RunT.ot0 (x := .v (.bool false)) rfl rfl rfl rfl (.pickF rfl rfl) ?_
              refine RunT.ot0 (x := .v (.bool false)) rfl rfl rfl rfl (.assignX rfl) ?_
              refine RunT.nil ?_
              obtain rfl := si H
              refine T.sub (sub_to (st' := ⟨[(0, .v (.bool false))], [], 8, []⟩) [] (by decide) rfl rfl (⟨⟨_, rfl, .one .v⟩, trivial⟩) (trivial)) ?_
              refine T.ret ?_
              exact RetOk.same [.v (.bool false)] ⟨rfl, trivial⟩ rfl rfl rfl
          · replace H := cf H g23
            refine RunT.xn rfl rfl rfl (bo g23) rfl rfl ?_
            refine RunT.xn rfl rfl rfl (bo g23) rfl rfl ?_
            refine RunT.xn rfl rfl rfl (bo g23) rfl rfl ?_
            refine RunT.xn rfl rfl rfl (bo g23) rfl rfl ?_
            refine RunT.ot0 (x := .v (.bool false)) rfl rfl rfl rfl (.pickF (bo g23) rfl) ?_
            refine RunT.ot0 (x := .v (.bool false)) rfl rfl rfl rfl (.moveX rfl) ?_
            refine RunT.xn rfl rfl rfl rfl rfl rfl ?_
            refine RunT.xn rfl rfl rfl rfl rfl rfl ?_
            refine RunT.ot0 (x := .v (.bool false)) rfl rfl rfl rfl (.pickF rfl rfl) ?_
            refine RunT.ot0 (x := .v (.bool false)) rfl rfl rfl rfl (.moveX rfl) ?_
            refine RunT.xn rfl rfl rfl rfl rfl rfl ?_
            refine RunT.xn rfl rfl rfl rfl rfl rfl ?_
            refine RunT.xn rfl rfl rfl rfl rfl rfl ?_
            refine RunT.ot0 (x := .v (.bool false)) rfl rfl rfl rfl (.pickF rfl rfl) ?_
            refine RunT.ot0 (x := .v (.bool false)) rfl rfl rfl rfl (.moveX rfl) ?_
            refine RunT.xn rfl rfl rfl rfl rfl rfl ?_
            refine RunT.xn rfl rfl rfl rfl rfl rfl ?_
            refine RunT.ot0 (x := .v (.bool false)) rfl rfl rfl rfl (.pickF rfl rfl) ?_
            refine RunT.ot0 (x := .v (.bool false)) rfl rfl rfl rfl (.moveX rfl) ?_
            refine RunT.xn rfl rfl rfl rfl rfl rfl ?_
            refine RunT.xn rfl rfl rfl rfl rfl rfl ?_
            refine RunT.xn rfl rfl rfl rfl rfl rfl ?_
            refine RunT.ot0 (x := .v (.bool false)) rfl rfl rfl rfl (.pickF rfl rfl) ?_
            refine RunT.ot0 (x := .v (.bool false)) rfl rfl rfl rfl (.moveX rfl) ?_
            refine RunT.xn rfl rfl rfl rfl rfl rfl ?_
            refine RunT.xn rfl rfl rfl rfl rfl rfl ?_
            refine RunT.ot0 (x := .v (.bool false)) rfl rfl rfl rfl (.pickF rfl rfl) ?_
            refine RunT.ot0 (x := .v (.bool false)) rfl rfl rfl rfl (.moveX rfl) ?_
            refine RunT.xn rfl rfl rfl rfl rfl rfl ?_
            refine RunT.xn rfl rfl rfl rfl rfl rfl ?_
            refine RunT.ot0 (x := .v (.bool false)) rfl rfl rfl rfl (.pickF rfl rfl) ?_
            refine RunT.ot0 (x := .v (.bool false)) rfl rfl rfl rfl (.moveX rfl) ?_
            refine RunT.xn rfl rfl rfl rfl rfl rfl ?_
            refine RunT.xn rfl rfl rfl rfl rfl rfl ?_
            refine RunT.ot0 (x := .v (.bool false)) rfl rfl rfl rfl (.pickF rfl rfl) ?_
            refine RunT.ot0 (x := .v (.bool false)) rfl rfl rfl rfl (.moveX rfl) ?_
            refine RunT.xn rfl rfl rfl rfl rfl rfl ?_
            refine RunT.xn rfl rfl rfl rfl rfl rfl ?_
            refine RunT.ot0 (x := .v (.bool false)) rfl rfl rfl rfl (.pickF rfl rfl) ?_
            refine RunT.ot0 (x := .v (.bool false)) rfl rfl rfl rfl (.moveX rfl) ?_
            refine RunT.xn rfl rfl rfl rfl rfl rfl ?_
            refine RunT.xn rfl rfl rfl rfl rfl rfl ?_
            refine RunT.xn rfl rfl rfl rfl rfl rfl ?_
            refine RunT.ot0 (x := .v (.bool false)) rfl rfl rfl rfl (.pickF rfl rfl) ?_
            refine RunT.ot0 (x := .v (.bool false)) rfl rfl rfl rfl (.moveX rfl) ?_
            refine RunT.xn rfl rfl rfl rfl rfl rfl ?_
            refine RunT.xn rfl rfl rfl rfl rfl rfl ?_
            refine RunT.xn rfl rfl rfl rfl rfl rfl ?_
            refine RunT.ot0 (x := .v (.bool false)) rfl rfl rfl rfl (.pickF rfl rfl) ?_
            refine RunT.ot0 (x := .v (.bool false)) rfl rfl rfl rfl (.moveX rfl) ?_
            refine RunT.xn rfl rfl rfl rfl rfl rfl ?_
            refine RunT.xn rfl rfl rfl rfl rfl rfl ?_
            refine RunT.xn rfl rfl rfl rfl rfl rfl ?_
            refine RunT.xn rfl rfl rfl rfl rfl rfl ?_
            refine RunT.ot0 (x := .v (.bool false)) rfl rfl rfl rfl (.pickF rfl rfl) ?_
            refine RunT.ot0 (x := .v (.bool false)) rfl rfl rfl rfl (.assignX rfl) ?_
            refine RunT.nil ?_
            obtain rfl := si H
            refine T.sub (sub_to (st' := ⟨[(0, .v (.bool false))], [], 8, []⟩) [] (by decide) rfl rfl (⟨⟨_, rfl, .one .v⟩, trivial⟩) (trivial)) ?_
            refine T.ret ?_
            exact RetOk.same [.v (.bool false)] ⟨rfl, trivial⟩ rfl rfl rfl
        · replace H := cf H g20
          refine RunT.xn rfl rfl rfl (bo g20) rfl rfl ?_
          refine RunT.xn rfl rfl rfl (bo g20) rfl rfl ?_
          refine RunT.xn rfl rfl rfl (bo g20) rfl rfl ?_
          refine RunT.xn rfl rfl rfl (bo g20) rfl rfl ?_
          refine RunT.ot0 (x := .v (.bool false)) rfl rfl rfl rfl (.pickF (bo g20) rfl) ?_
          refine RunT.ot0 (x := .v (.bool false)) rfl rfl rfl rfl (.moveX rfl) ?_
          refine RunT.xn rfl rfl rfl rfl rfl rfl ?_
          refine RunT.xn rfl rfl rfl rfl rfl rfl ?_
          refine RunT.xn rfl rfl rfl rfl rfl rfl ?_
          refine RunT.xn rfl rfl rfl rfl rfl rfl ?_
          refine RunT.ot0 (x := .v (.bool false)) rfl rfl rfl rfl (.pickF rfl rfl) ?_
          refine RunT.ot0 (x := .v (.bool false)) rfl rfl rfl rfl (.moveX rfl) ?_
          refine RunT.xn rfl rfl rfl rfl rfl rfl ?_
          refine RunT.xn rfl rfl rfl rfl rfl rfl ?_
          refine RunT.ot0 (x := .v (.bool false)) rfl rfl rfl rfl (.pickF rfl rfl) ?_
          refine RunT.ot0 (x := .v (.bool false)) rfl rfl rfl rfl (.moveX rfl) ?_
          refine RunT.xn rfl rfl rfl rfl rfl rfl ?_
          refine RunT.xn rfl rfl rfl rfl rfl rfl ?_
          refine RunT.xn rfl rfl rfl rfl rfl rfl ?_
          refine RunT.ot0 (x := .v (.bool false)) rfl rfl rfl rfl (.pickF rfl rfl) ?_
          refine RunT.ot0 (x := .v (.bool false)) rfl rfl rfl rfl (.moveX rfl) ?_
          refine RunT.xn rfl rfl rfl rfl rfl rfl ?_
          refine RunT.xn rfl rfl rfl rfl rfl rfl ?_
          refine RunT.ot0 (x := .v (.bool false)) rfl rfl rfl rfl (.pickF rfl rfl) ?_
          refine RunT.ot0 (x := .v (.bool false)) rfl rfl rfl rfl (.moveX rfl) ?_
          refine RunT.xn rfl rfl rfl rfl rfl rfl ?_
          refine RunT.xn rfl rfl rfl rfl rfl rfl ?_
          refine RunT.xn rfl rfl rfl rfl rfl rfl ?_
          refine RunT.ot0 (x := .v (.bool false)) rfl rfl rfl rfl (.pickF rfl rfl) ?_
          refine RunT.ot0 (x := .v (.bool false)) rfl rfl rfl rfl (.moveX rfl) ?_
          refine RunT.xn rfl rfl rfl rfl rfl rfl ?_
          refine RunT.xn rfl rfl rfl rfl rfl rfl ?_
          refine RunT.ot0 (x := .v (.bool false)) rfl rfl rfl rfl (.pickF rfl rfl) ?_
          refine RunT.ot0 (x := .v (.bool false)) rfl rfl rfl rfl (.moveX rfl) ?_
          refine RunT.xn rfl rfl rfl rfl rfl rfl ?_
          refine RunT.xn rfl rfl rfl rfl rfl rfl ?_
          refine RunT.ot0 (x := .v (.bool false)) rfl rfl rfl rfl (.pickF rfl rfl) ?_
          refine RunT.ot0 (x := .v (.bool false)) rfl rfl rfl rfl (.moveX rfl) ?_
          refine RunT.xn rfl rfl rfl rfl rfl rfl ?_
          refine RunT.xn rfl rfl rfl rfl rfl rfl ?_
          refine RunT.ot0 (x := .v (.bool false)) rfl rfl rfl rfl (.pickF rfl rfl) ?_
          refine RunT.ot0 (x := .v (.bool false)) rfl rfl rfl rfl (.moveX rfl) ?_
          refine RunT.xn rfl rfl rfl rfl rfl rfl ?_
          refine RunT.xn rfl rfl rfl rfl rfl rfl ?_
          refine RunT.ot0 (x := .v (.bool false)) rfl rfl rfl rfl (.pickF rfl rfl) ?_
          refine RunT.ot0 (x := .v (.bool false)) rfl rfl rfl rfl (.moveX rfl) ?_
          refine RunT.xn rfl rfl rfl rfl rfl rfl ?_
          refine RunT.xn rfl rfl rfl rfl rfl rfl ?_
          refine RunT.xn rfl rfl rfl rfl rfl rfl ?_
          refine RunT.ot0 (x := .v (.bool false)) rfl rfl rfl rfl (.pickF rfl rfl) ?_
          refine RunT.ot0 (x := .v (.bool false)) rfl rfl rfl rfl (.moveX rfl) ?_
          refine RunT.xn rfl rfl rfl rfl rfl rfl ?_
          refine RunT.xn rfl rfl rfl rfl rfl rfl ?_
          refine RunT.xn rfl rfl rfl rfl rfl rfl ?_
          refine RunT.ot0 (x := .v (.bool false)) rfl rfl rfl rfl (.pickF rfl rfl) ?_
          refine RunT.ot0 (x := .v (.bool false)) rfl rfl rfl rfl (.moveX rfl) ?_
          refine RunT.xn rfl rfl rfl rfl rfl rfl ?_
          refine RunT.xn rfl rfl rfl rfl rfl rfl ?_
          refine RunT.xn rfl rfl rfl rfl rfl rfl ?_
          refine RunT.xn rfl rfl rfl rfl rfl rfl ?_
          refine RunT.ot0 (x := .v (.bool false)) rfl rfl rfl rfl (.pickF rfl rfl) ?_
          refine RunT.ot0 (x := .v (.bool false)) rfl rfl rfl rfl (.assignX rfl) ?_
          refine RunT.nil ?_
          obtain rfl := si H
          refine T.sub (sub_to (st' := ⟨[(0, .v (.bool false))], [], 8, []⟩) [] (by decide) rfl rfl (⟨⟨_, rfl, .one .v⟩, trivial⟩) (trivial)) ?_
          refine T.ret ?_
          exact RetOk.same [.v (.bool false)] ⟨rfl, trivial⟩ rfl rfl rfl
      · replace H := cf H g17
        refine RunT.xn rfl rfl rfl (bo g17) rfl rfl ?_
        refine RunT.xn rfl rfl rfl (bo g17) rfl rfl ?_
        refine RunT.xn rfl rfl rfl (bo g17) rfl rfl ?_
        refine RunT.xn rfl rfl rfl (bo g17) rfl rfl ?_
        refine RunT.ot0 (x := .v (.bool false)) rfl rfl rfl rfl (.pickF (bo g17) rfl) ?_
        refine RunT.ot0 (x := .v (.bool false)) rfl rfl rfl rfl (.moveX rfl) ?_
        refine RunT.xn rfl rfl rfl rfl rfl rfl ?_
        refine RunT.xn rfl rfl rfl rfl rfl rfl ?_
        refine RunT.xn rfl rfl rfl rfl rfl rfl ?_
        refine RunT.xn rfl rfl rfl rfl rfl rfl ?_
        refine RunT.ot0 (x := .v (.bool false)) rfl rfl rfl rfl (.pickF rfl rfl) ?_
        refine RunT.ot0 (x := .v (.bool false)) rfl rfl rfl rfl (.moveX rfl) ?_
        refine RunT.xn rfl rfl rfl rfl rfl rfl ?_
        refine RunT.xn rfl rfl rfl rfl rfl rfl ?_
        refine RunT.xn rfl rfl rfl rfl rfl rfl ?_
        refine RunT.xn rfl rfl rfl rfl rfl rfl ?_
        refine RunT.ot0 (x := .v (.bool false)) rfl rfl rfl rfl (.pickF rfl rfl) ?_
        refine RunT.ot0 (x := .v (.bool false)) rfl rfl rfl rfl (.moveX rfl) ?_
        refine RunT.xn rfl rfl rfl rfl rfl rfl ?_
        refine RunT.xn rfl rfl rfl rfl rfl rfl ?_
        refine RunT.ot0 (x := .v (.bool false)) rfl rfl rfl rfl (.pickF rfl rfl) ?_
        refine RunT.ot0 (x := .v (.bool false)) rfl rfl rfl rfl (.moveX rfl) ?_
        refine RunT.xn rfl rfl rfl rfl rfl rfl ?_
        refine RunT.xn rfl rfl rfl rfl rfl rfl ?_
        refine RunT.xn rfl rfl rfl rfl rfl rfl ?_
        refine RunT.ot0 (x := .v (.bool false)) rfl rfl rfl rfl (.pickF rfl rfl) ?_
        refine RunT.ot0 (x := .v (.bool false)) rfl rfl rfl rfl (.moveX rfl) ?_
        refine RunT.xn rfl rfl rfl rfl rfl rfl ?_
        refine RunT.xn rfl rfl rfl rfl rfl rfl ?_
        refine RunT.ot0 (x := .v (.bool false)) rfl rfl rfl rfl (.pickF rfl rfl) ?_
        refine RunT.ot0 (x := .v (.bool false)) rfl rfl rfl rfl (.moveX rfl) ?_
        refine RunT.xn rfl rfl rfl rfl rfl rfl ?_
        refine RunT.xn rfl rfl rfl rfl rfl rfl ?_
        refine RunT.xn rfl rfl rfl rfl rfl rfl ?_
        refine RunT.ot0 (x := .v (.bool false)) rfl rfl rfl rfl (.pickF rfl rfl) ?_
        refine RunT.ot0 (x := .v (.bool false)) rfl rfl rfl rfl (.moveX rfl) ?_
        refine RunT.xn rfl rfl rfl rfl rfl rfl ?_
        refine RunT.xn rfl rfl rfl rfl rfl rfl ?_
        refine RunT.ot0 (x := .v (.bool false)) rfl rfl rfl rfl (.pickF rfl rfl) ?_
        refine RunT.ot0 (x := .v (.bool false)) rfl rfl rfl rfl (.moveX rfl) ?_
        refine RunT.xn rfl rfl rfl rfl rfl rfl ?_
        refine RunT.xn rfl rfl rfl rfl rfl rfl ?_
        refine RunT.ot0 (x := .v (.bool false)) rfl rfl rfl rfl (.pickF rfl rfl) ?_
        refine RunT.ot0 (x := .v (.bool false)) rfl rfl rfl rfl (.moveX rfl) ?_
        refine RunT.xn rfl rfl rfl rfl rfl rfl ?_
        refine RunT.xn rfl rfl rfl rfl rfl rfl ?_
        refine RunT.ot0 (x := .v (.bool false)) rfl rfl rfl rfl (.pickF rfl rfl) ?_
        refine RunT.ot0 (x := .v (.bool false)) rfl rfl rfl rfl (.moveX rfl) ?_
        refine RunT.xn rfl rfl rfl rfl rfl rfl ?_
        refine RunT.xn rfl rfl rfl rfl rfl rfl ?_
        refine RunT.ot0 (x := .v (.bool false)) rfl rfl rfl rfl (.pickF rfl rfl) ?_
        refine RunT.ot0 (x := .v (.bool false)) rfl rfl rfl rfl (.moveX rfl) ?_
        refine RunT.xn rfl rfl rfl rfl rfl rfl ?_
        refine RunT.xn rfl rfl rfl rfl rfl rfl ?_
        refine RunT.xn rfl rfl rfl rfl rfl rfl ?_
        refine RunT.ot0 (x := .v (.bool false)) rfl rfl rfl rfl (.pickF rfl rfl) ?_
        refine RunT.ot0 (x := .v (.bool false)) rfl rfl rfl rfl (.moveX rfl) ?_
        refine RunT.xn rfl rfl rfl rfl rfl rfl ?_
        refine RunT.xn rfl rfl rfl rfl rfl rfl ?_
        refine RunT.xn rfl rfl rfl rfl rfl rfl ?_
        refine RunT.ot0 (x := .v (.bool false)) rfl rfl rfl rfl (.pickF rfl rfl) ?_
        refine RunT.ot0 (x := .v (.bool false)) rfl rfl rfl rfl (.moveX rfl) ?_
        refine RunT.xn rfl rfl rfl rfl rfl rfl ?_
        refine RunT.xn rfl rfl rfl rfl rfl rfl ?_
        refine RunT.xn rfl rfl rfl rfl rfl rfl ?_
        refine RunT.xn rfl rfl rfl rfl rfl rfl ?_
        refine RunT.ot0 (x := .v (.bool false)) rfl rfl rfl rfl (.pickF rfl rfl) ?_
        refine RunT.ot0 (x := .v (.bool false)) rfl rfl rfl rfl (.assignX rfl) ?_
        refine RunT.nil ?_
        obtain rfl := si H
        refine T.sub (sub_to (st' := ⟨[(0, .v (.bool false))], [], 8, []⟩) [] (by decide) rfl rfl (⟨⟨_, rfl, .one .v⟩, trivial⟩) (trivial)) ?_
        refine T.ret ?_
        exact RetOk.same [.v (.bool false)] ⟨rfl, trivial⟩ rfl rfl rfl
    · replace H := cf H g14
      refine RunT.xn rfl rfl rfl (bo g14) rfl rfl ?_
      refine RunT.xn rfl rfl rfl (bo g14) rfl rfl ?_
      refine RunT.xn rfl rfl rfl (bo g14) rfl rfl ?_
      refine RunT.xn rfl rfl rfl (bo g14) rfl rfl ?_
      refine RunT.ot0 (x := .v (.bool false)) rfl rfl rfl rfl (.pickF (bo g14) rfl) ?_
      refine RunT.ot0 (x := .v (.bool false)) rfl rfl rfl rfl (.moveX rfl) ?_
      refine RunT.xn rfl rfl rfl rfl rfl rfl ?_
      refine RunT.xn rfl rfl rfl rfl rfl rfl ?_
      refine RunT.xn rfl rfl rfl rfl rfl rfl ?_
      refine RunT.xn rfl rfl rfl rfl rfl rfl ?_
      refine RunT.ot0 (x := .v (.bool false)) rfl rfl rfl rfl (.pickF rfl rfl) ?_
      refine RunT.ot0 (x := .v (.bool false)) rfl rfl rfl rfl (.moveX rfl) ?_
      refine RunT.xn rfl rfl rfl rfl rfl rfl ?_
      refine RunT.xn rfl rfl rfl rfl rfl rfl ?_
      refine RunT.xn rfl rfl rfl rfl rfl rfl ?_
      refine RunT.xn rfl rfl rfl rfl rfl rfl ?_
      refine RunT.ot0 (x := .v (.bool false)) rfl rfl rfl rfl (.pickF rfl rfl) ?_
      refine RunT.ot0 (x := .v (.bool false)) rfl rfl rfl rfl (.moveX rfl) ?_
      refine RunT.xn rfl rfl rfl rfl rfl rfl ?_
      refine RunT.xn rfl rfl rfl rfl rfl rfl ?_
      refine RunT.xn rfl rfl rfl rfl rfl rfl ?_
      refine RunT.xn rfl rfl rfl rfl rfl rfl ?_
      refine RunT.ot0 (x := .v (.bool false)) rfl rfl rfl rfl (.pickF rfl rfl) ?_
      refine RunT.ot0 (x := .v (.bool false)) rfl rfl rfl rfl (.moveX rfl) ?_
      refine RunT.xn rfl rfl rfl rfl rfl rfl ?_
      refine RunT.xn rfl rfl rfl rfl rfl rfl ?_
      refine RunT.ot0 (x := .v (.bool false)) rfl rfl rfl rfl (.pickF rfl rfl) ?_
      refine RunT.ot0 (x := .v (.bool false)) rfl rfl rfl rfl (.moveX rfl) ?_
      refine RunT.xn rfl rfl rfl rfl rfl rfl ?_
      refine RunT.xn rfl rfl rfl rfl rfl rfl ?_
      refine RunT.xn rfl rfl rfl rfl rfl rfl ?_
      refine RunT.ot0 (x := .v (.bool false)) rfl rfl rfl rfl (.pickF rfl rfl) ?_
      refine RunT.ot0 (x := .v (.bool false)) rfl rfl rfl rfl (.moveX rfl) ?_
      refine RunT.xn rfl rfl rfl rfl rfl rfl ?_
      refine RunT.xn rfl rfl rfl rfl rfl rfl ?_
      refine RunT.ot0 (x := .v (.bool false)) rfl rfl rfl rfl (.pickF rfl rfl) ?_
      refine RunT.ot0 (x := .v (.bool false)) rfl rfl rfl rfl (.moveX rfl) ?_
      refine RunT.xn rfl rfl rfl rfl rfl rfl ?_
      refine RunT.xn rfl rfl rfl rfl rfl rfl ?_
      refine RunT.xn rfl rfl rfl rfl rfl rfl ?_
      refine RunT.ot0 (x := .v (.bool false)) rfl rfl rfl rfl (.pickF rfl rfl) ?_
      refine RunT.ot0 (x := .v (.bool false)) rfl rfl rfl rfl (.moveX rfl) ?_
      refine RunT.xn rfl rfl rfl rfl rfl rfl ?_
      refine RunT.xn rfl rfl rfl rfl rfl rfl ?_
      refine RunT.ot0 (x := .v (.bool false)) rfl rfl rfl rfl (.pickF rfl rfl) ?_
      refine RunT.ot0 (x := .v (.bool false)) rfl rfl rfl rfl (.moveX rfl) ?_
      refine RunT.xn rfl rfl rfl rfl rfl rfl ?_
      refine RunT.xn rfl rfl rfl rfl rfl rfl ?_
      refine RunT.ot0 (x := .v (.bool false)) rfl rfl rfl rfl (.pickF rfl rfl) ?_
      refine RunT.ot0 (x := .v (.bool false)) rfl rfl rfl rfl (.moveX rfl) ?_
      refine RunT.xn rfl rfl rfl rfl rfl rfl ?_
      refine RunT.xn rfl rfl rfl rfl rfl rfl ?_
      refine RunT.ot0 (x := .v (.bool false)) rfl rfl rfl rfl (.pickF rfl rfl) ?_
      refine RunT.ot0 (x := .v (.bool false)) rfl rfl rfl rfl (.moveX rfl) ?_
      refine RunT.xn rfl rfl rfl rfl rfl rfl ?_
      refine RunT.xn rfl rfl rfl rfl rfl rfl ?_
      refine RunT.ot0 (x := .v (.bool false)) rfl rfl rfl rfl (.pickF rfl rfl) ?_
      refine RunT.ot0 (x := .v (.bool false)) rfl rfl rfl rfl (.moveX rfl) ?_
      refine RunT.xn rfl rfl rfl rfl rfl rfl ?_
      refine RunT.xn rfl rfl rfl rfl rfl rfl ?_
      refine RunT.xn rfl rfl rfl rfl rfl rfl ?_
      refine RunT.ot0 (x := .v (.bool false)) rfl rfl rfl rfl (.pickF rfl rfl) ?_
      refine RunT.ot0 (x := .v (.bool false)) rfl rfl rfl rfl (.moveX rfl) ?_
      refine RunT.xn rfl rfl rfl rfl rfl rfl ?_
      refine RunT.xn rfl rfl rfl rfl rfl rfl ?_
      refine RunT.xn rfl rfl rfl rfl rfl rfl ?_
      refine RunT.ot0 (x := .v (.bool false)) rfl rfl rfl rfl (.pickF rfl rfl) ?_
      refine RunT.ot0 (x := .v (.bool false)) rfl rfl rfl rfl (.moveX rfl) ?_
      refine RunT.xn rfl rfl rfl rfl rfl rfl ?_
      refine RunT.xn rfl rfl rfl rfl rfl rfl ?_
      refine RunT.xn rfl rfl rfl rfl rfl rfl ?_
      refine RunT.xn rfl rfl rfl rfl rfl rfl ?_
      refine RunT.ot0 (x := .v (.bool false)) rfl rfl rfl rfl (.pickF rfl rfl) ?_
      refine RunT.ot0 (x := .v (.bool false)) rfl rfl rfl rfl (.assignX rfl) ?_
      refine RunT.nil ?_
      obtain rfl := si H
      refine T.sub (sub_to (st' := ⟨[(0, .v (.bool false))], [], 8, []⟩) [] (by decide) rfl rfl (⟨⟨_, rfl, .one .v⟩, trivial⟩) (trivial)) ?_
      refine T.ret ?_
      exact RetOk.same [.v (.bool false)] ⟨rfl, trivial⟩ rfl rfl rfl
  · replace H := cf H g13
    refine RunT.xn rfl rfl rfl (bo g13) rfl rfl ?_
    refine RunT.xn rfl rfl rfl (bo g13) rfl rfl ?_
    refine RunT.xn rfl rfl rfl (bo g13) rfl rfl ?_
    refine RunT.ot0 (x := .v (.bool false)) rfl rfl rfl rfl (.pickF (bo g13) rfl) ?_
    refine RunT.ot0 (x := .v (.bool false)) rfl rfl rfl rfl (.moveX rfl) ?_
    refine RunT.xn rfl rfl rfl rfl rfl rfl ?_
    refine RunT.xn rfl rfl rfl rfl rfl rfl ?_
    refine RunT.xn rfl rfl rfl rfl rfl rfl ?_
    refine RunT.xn rfl rfl rfl rfl rfl rfl ?_
    refine RunT.ot0 (x := .v (.bool false)) rfl rfl rfl rfl (.pickF rfl rfl) ?_
    refine RunT.ot0 (x := .v (.bool false)) rfl rfl rfl rfl (.moveX rfl) ?_
    refine RunT.xn rfl rfl rfl rfl rfl rfl ?_
    refine RunT.xn rfl rfl rfl rfl rfl rfl ?_
    refine RunT.xn rfl rfl rfl rfl rfl rfl ?_
    refine RunT.xn rfl rfl rfl rfl rfl rfl ?_
    refine RunT.ot0 (x := .v (.bool false)) rfl rfl rfl rfl (.pickF rfl rfl) ?_
    refine RunT.ot0 (x := .v (.bool false)) rfl rfl rfl rfl (.moveX rfl) ?_
    refine RunT.xn rfl rfl rfl rfl rfl rfl ?_
    refine RunT.xn rfl rfl rfl rfl rfl rfl ?_
    refine RunT.xn rfl rfl rfl rfl rfl rfl ?_
    refine RunT.xn rfl rfl rfl rfl rfl rfl ?_
    refine RunT.ot0 (x := .v (.bool false)) rfl rfl rfl rfl (.pickF rfl rfl) ?_
    refine RunT.ot0 (x := .v (.bool false)) rfl rfl rfl rfl (.moveX rfl) ?_
    refine RunT.xn rfl rfl rfl rfl rfl rfl ?_
    refine RunT.xn rfl rfl rfl rfl rfl rfl ?_
    refine RunT.xn rfl rfl rfl rfl rfl rfl ?_
    refine RunT.xn rfl rfl rfl rfl rfl rfl ?_
    refine RunT.ot0 (x := .v (.bool false)) rfl rfl rfl rfl (.pickF rfl rfl) ?_
    refine RunT.ot0 (x := .v (.bool false)) rfl rfl rfl rfl (.moveX rfl) ?_
    refine RunT.xn rfl rfl rfl rfl rfl rfl ?_
    refine RunT.xn rfl rfl rfl rfl rfl rfl ?_
    refine RunT.ot0 (x := .v (.bool false)) rfl rfl rfl rfl (.pickF rfl rfl) ?_
    refine RunT.ot0 (x := .v (.bool false)) rfl rfl rfl rfl (.moveX rfl) ?_
    refine RunT.xn rfl rfl rfl rfl rfl rfl ?_
    refine RunT.xn rfl rfl rfl rfl rfl rfl ?_
    refine RunT.xn rfl rfl rfl rfl rfl rfl ?_
    refine RunT.ot0 (x := .v (.bool false)) rfl rfl rfl rfl (.pickF rfl rfl) ?_
    refine RunT.ot0 (x := .v (.bool false)) rfl rfl rfl rfl (.moveX rfl) ?_
    refine RunT.xn rfl rfl rfl rfl rfl rfl ?_
    refine RunT.xn rfl rfl rfl rfl rfl rfl ?_
    refine RunT.ot0 (x := .v (.bool false)) rfl rfl rfl rfl (.pickF rfl rfl) ?_
    refine RunT.ot0 (x := .v (.bool false)) rfl rfl rfl rfl (.moveX rfl) ?_
    refine RunT.xn rfl rfl rfl rfl rfl rfl ?_
    refine RunT.xn rfl rfl rfl rfl rfl rfl ?_
    refine RunT.xn rfl rfl rfl rfl rfl rfl ?_
    refine RunT.ot0 (x := .v (.bool false)) rfl rfl rfl rfl (.pickF rfl rfl) ?_
    refine RunT.ot0 (x := .v (.bool false)) rfl rfl rfl rfl (.moveX rfl) ?_
    refine RunT.xn rfl rfl rfl rfl rfl rfl ?_
    refine RunT.xn rfl rfl rfl rfl rfl rfl ?_
    refine RunT.ot0 (x := .v (.bool false)) rfl rfl rfl rfl (.pickF rfl rfl) ?_
    refine RunT.ot0 (x := .v (.bool false)) rfl rfl rfl rfl (.moveX rfl) ?_
    refine RunT.xn rfl rfl rfl rfl rfl rfl ?_
    refine RunT.xn rfl rfl rfl rfl rfl rfl ?_
    refine RunT.ot0 (x := .v (.bool false)) rfl rfl rfl rfl (.pickF rfl rfl) ?_
    refine RunT.ot0 (x := .v (.bool false)) rfl rfl rfl rfl (.moveX rfl) ?_
    refine RunT.xn rfl rfl rfl rfl rfl rfl ?_
    refine RunT.xn rfl rfl rfl rfl rfl rfl ?_
    refine RunT.ot0 (x := .v (.bool false)) rfl rfl rfl rfl (.pickF rfl rfl) ?_
    refine RunT.ot0 (x := .v (.bool false)) rfl rfl rfl rfl (.moveX rfl) ?_
    refine RunT.xn rfl rfl rfl rfl rfl rfl ?_
    refine RunT.xn rfl rfl rfl rfl rfl rfl ?_
    refine RunT.ot0 (x := .v (.bool false)) rfl rfl rfl rfl (.pickF rfl rfl) ?_
    refine RunT.ot0 (x := .v (.bool false)) rfl rfl rfl rfl (.moveX rfl) ?_
    refine RunT.xn rfl rfl rfl rfl rfl rfl ?_
    refine RunT.xn rfl rfl rfl rfl rfl rfl ?_
    refine RunT.xn rfl rfl rfl rfl rfl rfl ?_
    refine RunT.ot0 (x := .v (.bool false)) rfl rfl rfl rfl (.pickF rfl rfl) ?_
    refine RunT.ot0 (x := .v (.bool false)) rfl rfl rfl rfl (.moveX rfl) ?_
    refine RunT.xn rfl rfl rfl rfl rfl rfl ?_
    refine RunT.xn rfl rfl rfl rfl rfl rfl ?_
    refine RunT.xn rfl rfl rfl rfl rfl rfl ?_
    refine RunT.ot0 (x := .v (.bool false)) rfl rfl rfl rfl (.pickF rfl rfl) ?_
    refine RunT.ot0 (x := .v (.bool false)) rfl rfl rfl rfl (.moveX rfl) ?_
    refine RunT.xn rfl rfl rfl rfl rfl rfl ?_
    refine RunT.xn rfl rfl rfl rfl rfl rfl ?_
    refine RunT.xn rfl rfl rfl rfl rfl rfl ?_
    refine RunT.xn rfl rfl rfl rfl rfl rfl ?_
    refine RunT.ot0 (x := .v (.bool false)) rfl rfl rfl rfl (.pickF rfl rfl) ?_
    refine RunT.ot0 (x := .v (.bool false)) rfl rfl rfl rfl (.assignX rfl) ?_
    refine RunT.nil ?_
    obtain rfl := si H
    refine T.sub (sub_to (st' := ⟨[(0, .v (.bool false))], [], 8, []⟩) [] (by decide) rfl rfl (⟨⟨_, rfl, .one .v⟩, trivial⟩) (trivial)) ?_
    refine T.ret ?_
    exact RetOk.same [.v (.bool false)] ⟨rfl, trivial⟩ rfl rfl rfl
set_option maxHeartbeats 4000000 in
theorem law22_RecordKinds_pc (al : Bool) (k : Nat) (a0 : Record) (a1 : Record) (o : Bool) (H : law22_RecordKinds k a0 a1 = some o) : PC Try.prog al 13 [.agg [.v (.int .i64 a0.Kind), .v (.string a0.Text), .v (.int .i64 a0.Order.Id), .v (.int .i64 a0.Order.State), .v (.int .i64 a0.Order.Party.Size), .v (.int .i64 a0.Order.Party.Wheels), .v (.int .i64 a0.Order.Until), .v (.int .i64 a0.Order.First), .v (.int .i64 a0.Time)], .agg [.v (.int .i64 a1.Kind), .v (.string a1.Text), .v (.int .i64 a1.Order.Id), .v (.int .i64 a1.Order.State), .v (.int .i64 a1.Order.Party.Size), .v (.int .i64 a1.Order.Party.Wheels), .v (.int .i64 a1.Order.Until), .v (.int .i64 a1.Order.First), .v (.int .i64 a1.Time)]] (.v (.bool o)) := by
  unfold law22_RecordKinds at H
  refine PC.of_T Try.func13 rfl rfl (n := 79) rfl rfl (.inr rfl) ?_
  intro base B w0
  refine T.st (st' := ⟨[(0, .agg [.v (.int .i64 a0.Kind), .v (.string a0.Text), .v (.int .i64 a0.Order.Id), .v (.int .i64 a0.Order.State), .v (.int .i64 a0.Order.Party.Size), .v (.int .i64 a0.Order.Party.Wheels), .v (.int .i64 a0.Order.Until), .v (.int .i64 a0.Order.First), .v (.int .i64 a0.Time)]), (1, .agg [.v (.int .i64 a1.Kind), .v (.string a1.Text), .v (.int .i64 a1.Order.Id), .v (.int .i64 a1.Order.State), .v (.int .i64 a1.Order.Party.Size), .v (.int .i64 a1.Order.Party.Wheels), .v (.int .i64 a1.Order.Until), .v (.int .i64 a1.Order.First), .v (.int .i64 a1.Time)])], [], 0, []⟩) rfl ?_
  refine T.seq ?_
  refine T.region ?_
  refine RunT.ot1 (x := .ptr 0 0) (p0 := (0, some (.box [.v (.int .i64 a0.Kind), .v (.string a0.Text), .v (.int .i64 a0.Order.Id), .v (.int .i64 a0.Order.State), .v (.int .i64 a0.Order.Party.Size), .v (.int .i64 a0.Order.Party.Wheels), .v (.int .i64 a0.Order.Until), .v (.int .i64 a0.Order.First), .v (.int .i64 a0.Time)]))) (n' := 8) rfl rfl rfl rfl (.boxX rfl rfl rfl) rfl ?_
  refine RunT.ot1 (x := .ptr 8 0) (p0 := (8, some (.box [.v (.int .i64 a1.Kind), .v (.string a1.Text), .v (.int .i64 a1.Order.Id), .v (.int .i64 a1.Order.State), .v (.int .i64 a1.Order.Party.Size), .v (.int .i64 a1.Order.Party.Wheels), .v (.int .i64 a1.Order.Until), .v (.int .i64 a1.Order.First), .v (.int .i64 a1.Time)]))) (n' := 16) rfl rfl rfl rfl (.boxX rfl rfl rfl) rfl ?_
  refine RunT.ot0 (x := .v (.bool false)) rfl rfl rfl rfl (.assignX rfl) ?_
  refine RunT.nil ?_
  refine T.seq ?_
  obtain ⟨o8, E9, HO10⟩ := bs H
  refine T.cut (⟨[(2, .ptr 0 0), (3, .ptr 1 0), (28, .v (.bool o8))], [(0, some (.box [.v (.int .i64 a0.Kind), .v (.string a0.Text), .v (.int .i64 a0.Order.Id), .v (.int .i64 a0.Order.State), .v (.int .i64 a0.Order.Party.Size), .v (.int .i64 a0.Order.Party.Wheels), .v (.int .i64 a0.Order.Until), .v (.int .i64 a0.Order.First), .v (.int .i64 a0.Time)])), (1, some (.box [.v (.int .i64 a1.Kind), .v (.string a1.Text), .v (.int .i64 a1.Order.Id), .v (.int .i64 a1.Order.State), .v (.int .i64 a1.Order.Party.Size), .v (.int .i64 a1.Order.Party.Wheels), .v (.int .i64 a1.Order.Until), .v (.int .i64 a1.Order.First), .v (.int .i64 a1.Time)]))], 8, []⟩) ?_ ?_
  · have H := E9
    refine T.sub (sub_pick [2, 3] [0, 8] (st' := ⟨[(2, .ptr 0 0), (3, .ptr 8 0)], [(0, some (.box [.v (.int .i64 a0.Kind), .v (.string a0.Text), .v (.int .i64 a0.Order.Id), .v (.int .i64 a0.Order.State), .v (.int .i64 a0.Order.Party.Size), .v (.int .i64 a0.Order.Party.Wheels), .v (.int .i64 a0.Order.Until), .v (.int .i64 a0.Order.First), .v (.int .i64 a0.Time)])), (8, some (.box [.v (.int .i64 a1.Kind), .v (.string a1.Text), .v (.int .i64 a1.Order.Id), .v (.int .i64 a1.Order.State), .v (.int .i64 a1.Order.Party.Size), .v (.int .i64 a1.Order.Party.Wheels), .v (.int .i64 a1.Order.Until), .v (.int .i64 a1.Order.First), .v (.int .i64 a1.Time)]))], 16, []⟩) rfl rfl rfl rfl rfl) ?_
    refine T.region ?_
    refine RunT.ot0 (x := .ptr 0 1) rfl rfl rfl rfl (.fieldPX fl51_1 rfl rfl) ?_
    refine RunT.ot0 (x := .v (.string a0.Text)) rfl rfl rfl rfl (.loadP ty9 rfl rfl rfl) ?_
    refine RunT.ot0 (x := .v (.int .i64 (a0.Text.size : Int))) rfl rfl rfl rfl (.lenV rfl (fun _ w => len_str rfl Try.underlying9 w) rfl) ?_
    refine RunT.ot0 (x := .v (.bool (decide (200 < (a0.Text.size : Int))))) rfl rfl rfl rfl (.bin rfl rfl (fun w => b_gtr w) rfl) ?_
    refine RunT.ot0 (x := .v (.bool (decide (200 < (a0.Text.size : Int))))) rfl rfl rfl rfl (.moveX rfl) ?_
    refine RunT.cases (t := 13) (c := decide (200 < (a0.Text.size : Int))) rfl (fun g11 => ?_) (fun g11 => ?_)
    · replace H := ct H g11
      refine RunT.xn rfl rfl rfl (bo g11) rfl rfl ?_
      refine RunT.xn rfl rfl rfl (bo g11) rfl rfl ?_
      refine RunT.xn rfl rfl rfl (bo g11) rfl rfl ?_
      refine RunT.xn rfl rfl rfl (bo g11) rfl rfl ?_
      refine RunT.ot0 (x := .v (.bool true)) rfl rfl rfl rfl (.pickT (bo g11) rfl) ?_
      refine RunT.ot0 (x := .v (.bool true)) rfl rfl rfl rfl (.moveX rfl) ?_
      refine RunT.xn rfl rfl rfl rfl rfl rfl ?_
      refine RunT.xn rfl rfl rfl rfl rfl rfl ?_
      refine RunT.xn rfl rfl rfl rfl rfl rfl ?_
      refine RunT.ot0 (x := .v (.bool true)) rfl rfl rfl rfl (.pickT rfl rfl) ?_
      refine RunT.ot0 (x := .v (.bool true)) rfl rfl rfl rfl (.moveX rfl) ?_
      refine RunT.xn rfl rfl rfl rfl rfl rfl ?_
      refine RunT.xn rfl rfl rfl rfl rfl rfl ?_
      refine RunT.xn rfl rfl rfl rfl rfl rfl ?_
      refine RunT.ot0 (x := .v (.bool true)) rfl rfl rfl rfl (.pickT rfl rfl) ?_
      refine RunT.nil ?_
      obtain rfl := si H
      exact (sub_to [some 0, some 8] (by decide) rfl rfl (⟨⟨_, rfl, .one (.ptr rfl)⟩, ⟨⟨_, rfl, .one (.ptr rfl)⟩, ⟨⟨_, rfl, .one .v⟩, trivial⟩⟩⟩) (⟨⟨rfl, .inl ⟨_, _, rfl, rfl, .box ⟨.v, .v, .v, .v, .v, .v, .v, .v, .v, trivial⟩⟩⟩, ⟨⟨rfl, .inl ⟨_, _, rfl, rfl, .box ⟨.v, .v, .v, .v, .v, .v, .v, .v, .v, trivial⟩⟩⟩, trivial⟩⟩))
    · replace H := cf H g11
      refine RunT.gt0 (x := .ptr 8 1) rfl rfl rfl (bo g11) rfl rfl (.fieldPX fl51_1 rfl rfl) ?_
      refine RunT.gt0 (x := .v (.string a1.Text)) rfl rfl rfl (bo g11) rfl rfl (.loadP ty9 rfl rfl rfl) ?_
      refine RunT.gt0 (x := .v (.int .i64 (a1.Text.size : Int))) rfl rfl rfl (bo g11) rfl rfl (.lenV rfl (fun _ w => len_str rfl Try.underlying9 w) rfl) ?_
      refine RunT.gt0 (x := .v (.bool (decide (200 < (a1.Text.size : Int))))) rfl rfl rfl (bo g11) rfl rfl (.bin rfl rfl (fun w => b_gtr w) rfl) ?_
      refine RunT.ot0 (x := .v (.bool (decide (200 < (a1.Text.size : Int))))) rfl rfl rfl rfl (.pickF (bo g11) rfl) ?_
      refine RunT.ot0 (x := .v (.bool (decide (200 < (a1.Text.size : Int))))) rfl rfl rfl rfl (.moveX rfl) ?_
      refine RunT.cases (t := 19) (c := decide (200 < (a1.Text.size : Int))) rfl (fun g12 => ?_) (fun g12 => ?_)
      · replace H := ct H g12
        refine RunT.xn rfl rfl rfl (bo g12) rfl rfl ?_
        refine RunT.xn rfl rfl rfl (bo g12) rfl rfl ?_
        refine RunT.xn rfl rfl rfl (bo g12) rfl rfl ?_
        refine RunT.ot0 (x := .v (.bool true)) rfl rfl rfl rfl (.pickT (bo g12) rfl) ?_
        refine RunT.ot0 (x := .v (.bool true)) rfl rfl rfl rfl (.moveX rfl) ?_
        refine RunT.xn rfl rfl rfl rfl rfl rfl ?_
        refine RunT.xn rfl rfl rfl rfl rfl rfl ?_
        refine RunT.xn rfl rfl rfl rfl rfl rfl ?_
        refine RunT.ot0 (x := .v (.bool true)) rfl rfl rfl rfl (.pickT rfl rfl) ?_
        refine RunT.nil ?_
        obtain rfl := si H
        exact (sub_to [some 0, some 8] (by decide) rfl rfl (⟨⟨_, rfl, .one (.ptr rfl)⟩, ⟨⟨_, rfl, .one (.ptr rfl)⟩, ⟨⟨_, rfl, .one .v⟩, trivial⟩⟩⟩) (⟨⟨rfl, .inl ⟨_, _, rfl, rfl, .box ⟨.v, .v, .v, .v, .v, .v, .v, .v, .v, trivial⟩⟩⟩, ⟨⟨rfl, .inl ⟨_, _, rfl, rfl, .box ⟨.v, .v, .v, .v, .v, .v, .v, .v, .v, trivial⟩⟩⟩, trivial⟩⟩))
      · replace H := cf H g12
        refine RunT.gt0 (x := .agg [.v (.int .i64 a0.Kind), .v (.string a0.Text), .v (.int .i64 a0.Order.Id), .v (.int .i64 a0.Order.State), .v (.int .i64 a0.Order.Party.Size), .v (.int .i64 a0.Order.Party.Wheels), .v (.int .i64 a0.Order.Until), .v (.int .i64 a0.Order.First), .v (.int .i64 a0.Time)]) rfl rfl rfl (bo g12) rfl rfl (.loadP ty51 rfl rfl rfl) ?_
        obtain ⟨r13, h14, H⟩ := bs H
        refine RunT.gt0 (x := .v (.bool r13)) rfl rfl rfl (bo g12) rfl rfl (.callp (record_May_pc false k a0 r13 h14) rfl ⟨(.agg' ⟨.v, .v, .v, .v, .v, .v, .v, .v, .v, trivial⟩), trivial⟩ rfl rfl rfl) ?_
        refine RunT.gt0 (x := .v (.bool (!r13))) rfl rfl rfl (bo g12) rfl rfl (.un rfl (fun w => u_not w) rfl) ?_
        refine RunT.ot0 (x := .v (.bool (!r13))) rfl rfl rfl rfl (.pickF (bo g12) rfl) ?_
        refine RunT.ot0 (x := .v (.bool (!r13))) rfl rfl rfl rfl (.moveX rfl) ?_
        refine RunT.cases (t := 24) (c := !r13) rfl (fun g15 => ?_) (fun g15 => ?_)
        · replace H := ct H g15
          refine RunT.xn rfl rfl rfl (bo g15) rfl rfl ?_
          refine RunT.xn rfl rfl rfl (bo g15) rfl rfl ?_
          refine RunT.xn rfl rfl rfl (bo g15) rfl rfl ?_
          refine RunT.ot0 (x := .v (.bool true)) rfl rfl rfl rfl (.pickT (bo g15) rfl) ?_
          refine RunT.nil ?_
          obtain rfl := si H
          exact (sub_to [some 0, some 8] (by decide) rfl rfl (⟨⟨_, rfl, .one (.ptr rfl)⟩, ⟨⟨_, rfl, .one (.ptr rfl)⟩, ⟨⟨_, rfl, .one .v⟩, trivial⟩⟩⟩) (⟨⟨rfl, .inl ⟨_, _, rfl, rfl, .box ⟨.v, .v, .v, .v, .v, .v, .v, .v, .v, trivial⟩⟩⟩, ⟨⟨rfl, .inl ⟨_, _, rfl, rfl, .box ⟨.v, .v, .v, .v, .v, .v, .v, .v, .v, trivial⟩⟩⟩, trivial⟩⟩))
        · replace H := cf H g15
          refine RunT.gt0 (x := .agg [.v (.int .i64 a1.Kind), .v (.string a1.Text), .v (.int .i64 a1.Order.Id), .v (.int .i64 a1.Order.State), .v (.int .i64 a1.Order.Party.Size), .v (.int .i64 a1.Order.Party.Wheels), .v (.int .i64 a1.Order.Until), .v (.int .i64 a1.Order.First), .v (.int .i64 a1.Time)]) rfl rfl rfl (bo g15) rfl rfl (.loadP ty51 rfl rfl rfl) ?_
          obtain ⟨r16, h17, H⟩ := bs H
          refine RunT.gt0 (x := .v (.bool r16)) rfl rfl rfl (bo g15) rfl rfl (.callp (record_May_pc false k a1 r16 h17) rfl ⟨(.agg' ⟨.v, .v, .v, .v, .v, .v, .v, .v, .v, trivial⟩), trivial⟩ rfl rfl rfl) ?_
          refine RunT.gt0 (x := .v (.bool (!r16))) rfl rfl rfl (bo g15) rfl rfl (.un rfl (fun w => u_not w) rfl) ?_
          refine RunT.ot0 (x := .v (.bool (!r16))) rfl rfl rfl rfl (.pickF (bo g15) rfl) ?_
          refine RunT.nil ?_
          obtain rfl := si H
          exact (sub_to [some 0, some 8] (by decide) rfl rfl (⟨⟨_, rfl, .one (.ptr rfl)⟩, ⟨⟨_, rfl, .one (.ptr rfl)⟩, ⟨⟨_, rfl, .one .v⟩, trivial⟩⟩⟩) (⟨⟨rfl, .inl ⟨_, _, rfl, rfl, .box ⟨.v, .v, .v, .v, .v, .v, .v, .v, .v, trivial⟩⟩⟩, ⟨⟨rfl, .inl ⟨_, _, rfl, rfl, .box ⟨.v, .v, .v, .v, .v, .v, .v, .v, .v, trivial⟩⟩⟩, trivial⟩⟩))
  · have H := HO10
    refine T.cond2 (t := o8) rfl (fun c18 => ?_) (fun c18 => ?_)
    · replace H := ct H c18
      refine T.seq ?_
      refine T.sub (sub_pick [] [] (st' := ⟨[], [], 8, []⟩) rfl rfl rfl rfl rfl) ?_
      refine T.region ?_
      obtain ⟨r19, h20, H⟩ := bs H
      refine RunT.ot0 (x := .v (.bool r19)) rfl rfl rfl rfl (.callp (law22_told_pc false k  r19 h20) rfl trivial rfl rfl rfl) ?_
      refine RunT.ot0 (x := .v (.bool r19)) rfl rfl rfl rfl (.assignX rfl) ?_
      refine RunT.nil ?_
      obtain rfl := si H
      refine T.sub (sub_to (st' := ⟨[(4, .v (.bool r19))], [], 8, []⟩) [] (by decide) rfl rfl (⟨⟨_, rfl, .one .v⟩, trivial⟩) (trivial)) ?_
      refine T.ret ?_
      exact RetOk.same [.v (.bool r19)] ⟨rfl, trivial⟩ rfl rfl rfl
    · replace H := cf H c18
      refine T.skip ?_
      refine T.seq ?_
      refine T.region ?_
      refine RunT.ot0 (x := .agg [.v (.int .i64 a0.Kind), .v (.string a0.Text), .v (.int .i64 a0.Order.Id), .v (.int .i64 a0.Order.State), .v (.int .i64 a0.Order.Party.Size), .v (.int .i64 a0.Order.Party.Wheels), .v (.int .i64 a0.Order.Until), .v (.int .i64 a0.Order.First), .v (.int .i64 a0.Time)]) rfl rfl rfl rfl (.loadP ty51 rfl rfl rfl) ?_
      obtain ⟨r21, h22, H⟩ := bs H
      refine RunT.ot0 (x := .tup [.lst (List.map eU8 r21.1), .v (.int .i64 r21.2)]) rfl rfl rfl rfl (.callp (PC.frozen (record_Put_pc false k a0 r21 h22)) rfl ⟨(.agg' ⟨.v, .v, .v, .v, .v, .v, .v, .v, .v, trivial⟩), trivial⟩ rfl rfl rfl) ?_
      refine RunT.ot0 (x := .tup [.lst (List.map eU8 r21.1), .v (.int .i64 r21.2)]) rfl rfl rfl rfl (.moveX rfl) ?_
      refine RunT.ot0 (x := .lst (List.map eU8 r21.1)) rfl rfl rfl rfl (.extract rfl rfl) ?_
      refine RunT.ot0 (x := .v (.int .i64 r21.2)) rfl rfl rfl rfl (.extract rfl rfl) ?_
      refine RunT.ot0 (x := .lst (List.map eU8 r21.1)) rfl rfl rfl rfl (.assignX rfl) ?_
      refine RunT.ot0 (x := .v (.int .i64 r21.2)) rfl rfl rfl rfl (.assignX rfl) ?_
      refine RunT.nil ?_
      refine T.seq ?_
      refine T.region ?_
      refine RunT.ot0 (x := .agg [.v (.int .i64 a1.Kind), .v (.string a1.Text), .v (.int .i64 a1.Order.Id), .v (.int .i64 a1.Order.State), .v (.int .i64 a1.Order.Party.Size), .v (.int .i64 a1.Order.Party.Wheels), .v (.int .i64 a1.Order.Until), .v (.int .i64 a1.Order.First), .v (.int .i64 a1.Time)]) rfl rfl rfl rfl (.loadP ty51 rfl rfl rfl) ?_
      obtain ⟨r23, h24, H⟩ := bs H
      refine RunT.ot0 (x := .tup [.lst (List.map eU8 r23.1), .v (.int .i64 r23.2)]) rfl rfl rfl rfl (.callp (PC.frozen (record_Put_pc false k a1 r23 h24)) rfl ⟨(.agg' ⟨.v, .v, .v, .v, .v, .v, .v, .v, .v, trivial⟩), trivial⟩ rfl rfl rfl) ?_
      refine RunT.ot0 (x := .tup [.lst (List.map eU8 r23.1), .v (.int .i64 r23.2)]) rfl rfl rfl rfl (.moveX rfl) ?_
      refine RunT.ot0 (x := .lst (List.map eU8 r23.1)) rfl rfl rfl rfl (.extract rfl rfl) ?_
      refine RunT.ot0 (x := .v (.int .i64 r23.2)) rfl rfl rfl rfl (.extract rfl rfl) ?_
      refine RunT.ot0 (x := .lst (List.map eU8 r23.1)) rfl rfl rfl rfl (.assignX rfl) ?_
      refine RunT.ot0 (x := .v (.int .i64 r23.2)) rfl rfl rfl rfl (.assignX rfl) ?_
      refine RunT.nil ?_
      refine T.seq ?_
      refine T.sub (sub_pick [2, 3, 5, 6, 7, 8] [0, 1] (st' := ⟨[(2, .ptr 0 0), (3, .ptr 1 0), (5, .lst (List.map eU8 r21.1)), (6, .v (.int .i64 r21.2)), (7, .lst (List.map eU8 r23.1)), (8, .v (.int .i64 r23.2))], [(0, some (.box [.v (.int .i64 a0.Kind), .v (.string a0.Text), .v (.int .i64 a0.Order.Id), .v (.int .i64 a0.Order.State), .v (.int .i64 a0.Order.Party.Size), .v (.int .i64 a0.Order.Party.Wheels), .v (.int .i64 a0.Order.Until), .v (.int .i64 a0.Order.First), .v (.int .i64 a0.Time)])), (1, some (.box [.v (.int .i64 a1.Kind), .v (.string a1.Text), .v (.int .i64 a1.Order.Id), .v (.int .i64 a1.Order.State), .v (.int .i64 a1.Order.Party.Size), .v (.int .i64 a1.Order.Party.Wheels), .v (.int .i64 a1.Order.Until), .v (.int .i64 a1.Order.First), .v (.int .i64 a1.Time)]))], 8, []⟩) rfl rfl rfl rfl rfl) ?_
      refine T.draw (wr := []) mixed rfl rfl ?_ rfl
      obtain ⟨r37, h38, H⟩ := bs H
      refine RunD.ot0 (x := .v (.bool r37)) rfl rfl rfl rfl (.callp (law22_told_pc false k  r37 h38) rfl trivial rfl rfl rfl) rfl ?_
      refine RunD.ot0 (x := .v (.bool r37)) rfl rfl rfl rfl (.moveX rfl) rfl ?_
      refine RunD.cases (t := 41) (c := r37) rfl (fun g39 => ?_) (fun g39 => ?_)
      · replace H := ct H g39
        refine RunD.gt0 (x := .v (.int .i64 r21.2)) rfl rfl rfl (bo g39) rfl rfl (.moveX rfl) rfl ?_
        refine RunD.gt0 (x := .v (.bool (decide (r21.2 = 0)))) rfl rfl rfl (bo g39) rfl rfl (.bin rfl rfl (fun w => b_eql w) rfl) rfl ?_
        refine RunD.ot0 (x := .v (.bool (decide (r21.2 = 0)))) rfl rfl rfl rfl (.pickT (bo g39) rfl) rfl ?_
        refine RunD.ot0 (x := .v (.bool (decide (r21.2 = 0)))) rfl rfl rfl rfl (.moveX rfl) rfl ?_
        refine RunD.cases (t := 45) (c := decide (r21.2 = 0)) rfl (fun g40 => ?_) (fun g40 => ?_)
        · replace H := ct H g40
          refine RunD.gt0 (x := .v (.int .i64 r23.2)) rfl rfl rfl (bo g40) rfl rfl (.moveX rfl) rfl ?_
          refine RunD.gt0 (x := .v (.bool (decide (r23.2 = 0)))) rfl rfl rfl (bo g40) rfl rfl (.bin rfl rfl (fun w => b_eql w) rfl) rfl ?_
          refine RunD.ot0 (x := .v (.bool (decide (r23.2 = 0)))) rfl rfl rfl rfl (.pickT (bo g40) rfl) rfl ?_
          refine RunD.ot0 (x := .v (.bool (decide (r23.2 = 0)))) rfl rfl rfl rfl (.moveX rfl) rfl ?_
          refine RunD.cases (t := 49) (c := decide (r23.2 = 0)) rfl (fun g41 => ?_) (fun g41 => ?_)
          · replace H := ct H g41
            refine RunD.gt0 (x := .lst (List.map eU8 r21.1)) rfl rfl rfl (bo g41) rfl rfl (.moveX rfl) rfl ?_
            refine RunD.gt0 (x := .v (.string (strOf r21.1))) rfl rfl rfl (bo g41) rfl rfl (.toStrm (d := false) (m := r21.1) (f := eU8) Try.underlying35 Try.underlying5 Try.underlying9 rfl (.lstm Try.underlying35 enc_U8) (fun _ => rfl)) rfl ?_
            refine RunD.gt0 (x := .lst (List.map eU8 r23.1)) rfl rfl rfl (bo g41) rfl rfl (.moveX rfl) rfl ?_
            refine RunD.gt0 (x := .v (.string (strOf r23.1))) rfl rfl rfl (bo g41) rfl rfl (.toStrm (d := false) (m := r23.1) (f := eU8) Try.underlying35 Try.underlying5 Try.underlying9 rfl (.lstm Try.underlying35 enc_U8) (fun _ => rfl)) rfl ?_
            refine RunD.gt0 (x := .v (.bool ((strOf r21.1) == (strOf r23.1)))) rfl rfl rfl (bo g41) rfl rfl (.bin rfl rfl (fun w => eqStr w) rfl) rfl ?_
            refine RunD.gt0 (x := .agg [.v (.int .i64 a0.Kind), .v (.string a0.Text), .v (.int .i64 a0.Order.Id), .v (.int .i64 a0.Order.State), .v (.int .i64 a0.Order.Party.Size), .v (.int .i64 a0.Order.Party.Wheels), .v (.int .i64 a0.Order.Until), .v (.int .i64 a0.Order.First), .v (.int .i64 a0.Time)]) rfl rfl rfl (bo g41) rfl rfl (.loadP ty51 rfl rfl rfl) rfl ?_
            refine RunD.gt0 (x := .agg [.v (.int .i64 a1.Kind), .v (.string a1.Text), .v (.int .i64 a1.Order.Id), .v (.int .i64 a1.Order.State), .v (.int .i64 a1.Order.Party.Size), .v (.int .i64 a1.Order.Party.Wheels), .v (.int .i64 a1.Order.Until), .v (.int .i64 a1.Order.First), .v (.int .i64 a1.Time)]) rfl rfl rfl (bo g41) rfl rfl (.loadP ty51 rfl rfl rfl) rfl ?_
            refine RunD.gt0 (x := .v (.bool (decide (a0 = a1)))) rfl rfl rfl (bo g41) rfl rfl (.binA (us := us_Record (a0)) (vs := us_Record (a1)) rfl rfl (fun w => eq_Record (a0) (a1) w) rfl) rfl ?_
            refine RunD.gt0 (x := .v (.bool (((strOf r21.1) == (strOf r23.1)) == (decide (a0 = a1))))) rfl rfl rfl (bo g41) rfl rfl (.bin rfl rfl (fun w => b_eqB w Try.underlying4) rfl) rfl ?_
            refine RunD.ot0 (x := .v (.bool (((strOf r21.1) == (strOf r23.1)) == (decide (a0 = a1))))) rfl rfl rfl rfl (.pickT (bo g41) rfl) rfl ?_
            refine RunD.ot0 (x := .v (.bool (((strOf r21.1) == (strOf r23.1)) == (decide (a0 = a1))))) rfl rfl rfl rfl (.moveX rfl) rfl ?_
            refine RunD.cases (t := 60) (c := ((strOf r21.1) == (strOf r23.1)) == (decide (a0 = a1))) rfl (fun g42 => ?_) (fun g42 => ?_)
            · replace H := ct H g42
              refine RunD.gt0 (x := .lst (List.map eU8 r21.1)) rfl rfl rfl (bo g42) rfl rfl (.moveX rfl) rfl ?_
              refine RunD.gt0 (x := .v (.int .i64 (r21.1.length : Int))) rfl rfl rfl (bo g42) rfl rfl (.lenLm Try.underlying35 rfl rfl) rfl ?_
              refine RunD.gt0 (x := .v (.bool (decide (0 < (r21.1.length : Int))))) rfl rfl rfl (bo g42) rfl rfl (.bin rfl rfl (fun w => b_gtr w) rfl) rfl ?_
              refine RunD.ot0 (x := .v (.bool (decide (0 < (r21.1.length : Int))))) rfl rfl rfl rfl (.pickT (bo g42) rfl) rfl ?_
              refine RunD.ot0 (x := .v (.bool (decide (0 < (r21.1.length : Int))))) rfl rfl rfl rfl (.moveX rfl) rfl ?_
              refine RunD.cases (t := 65) (c := decide (0 < (r21.1.length : Int))) rfl (fun g43 => ?_) (fun g43 => ?_)
              · replace H := ct H g43
                refine RunD.gt0 (x := .lst (List.map eU8 r21.1)) rfl rfl rfl (bo g43) rfl rfl (.moveX rfl) rfl ?_
                obtain ⟨y44, h45, H⟩ := bs H
                refine RunD.gt0 (x := .rptr [.v (.int .u8 y44)]) rfl rfl rfl (bo g43) rfl rfl (.idxLX h45 enc_U8 sl35 rfl rfl rfl) rfl ?_
                refine RunD.gt0 (x := .v (.int .u8 y44)) rfl rfl rfl (bo g43) rfl rfl (.loadR ty5 rfl rfl) rfl ?_
                refine RunD.gt0 (x := .v (.int .i64 (wr y44))) rfl rfl rfl (bo g43) rfl rfl (.conv rfl (fun w => c_intw w ⟨_, Try.underlying5⟩ Try.underlying3) rfl) rfl ?_
                refine RunD.gt0 (x := .ptr 0 0) rfl rfl rfl (bo g43) rfl rfl (.fieldPX fl51_0 rfl rfl) rfl ?_
                refine RunD.gt0 (x := .v (.int .i64 a0.Kind)) rfl rfl rfl (bo g43) rfl rfl (.loadP ty3 rfl rfl rfl) rfl ?_
                refine RunD.gt0 (x := .v (.bool (decide ((wr y44) = a0.Kind)))) rfl rfl rfl (bo g43) rfl rfl (.bin rfl rfl (fun w => b_eql w) rfl) rfl ?_
                refine RunD.ot0 (x := .v (.bool (decide ((wr y44) = a0.Kind)))) rfl rfl rfl rfl (.pickT (bo g43) rfl) rfl ?_
                refine RunD.ot0 (x := .v (.bool (decide ((wr y44) = a0.Kind)))) rfl rfl rfl rfl (.moveX rfl) rfl ?_
                refine RunD.cases (t := 74) (c := decide ((wr y44) = a0.Kind)) rfl (fun g46 => ?_) (fun g46 => ?_)
                · replace H := ct H g46
                  refine RunD.gt0 (x := .agg [.v (.int .i64 a0.Kind), .v (.string a0.Text), .v (.int .i64 a0.Order.Id), .v (.int .i64 a0.Order.State), .v (.int .i64 a0.Order.Party.Size), .v (.int .i64 a0.Order.Party.Wheels), .v (.int .i64 a0.Order.Until), .v (.int .i64 a0.Order.First), .v (.int .i64 a0.Time)]) rfl rfl rfl (bo g46) rfl rfl (.loadP ty51 rfl rfl rfl) rfl ?_
                  refine RunD.gt0 (x := .agg [.v (.int .i64 a0.Kind), .v (.string a0.Text), .v (.int .i64 a0.Order.Id), .v (.int .i64 a0.Order.State), .v (.int .i64 a0.Order.Party.Size), .v (.int .i64 a0.Order.Party.Wheels), .v (.int .i64 a0.Order.Until), .v (.int .i64 a0.Order.First), .v (.int .i64 a0.Time)]) rfl rfl rfl (bo g46) rfl rfl (.loadP ty51 rfl rfl rfl) rfl ?_
                  obtain ⟨r47, h48, H⟩ := bs H
                  refine RunD.gt0 (x := .v (.bool r47)) rfl rfl rfl (bo g46) rfl rfl (.callp (record_Same_pc false k a0 a0 r47 h48) rfl ⟨(.agg' ⟨.v, .v, .v, .v, .v, .v, .v, .v, .v, trivial⟩), (.agg' ⟨.v, .v, .v, .v, .v, .v, .v, .v, .v, trivial⟩), trivial⟩ rfl rfl rfl) rfl ?_
                  refine RunD.ot0 (x := .v (.bool r47)) rfl rfl rfl rfl (.pickT (bo g46) rfl) rfl ?_
                  refine RunD.ot0 (x := .v (.bool r47)) rfl rfl rfl rfl (.assignX rfl) rfl ?_
                  refine RunD.nil (by kernel_rfl) ⟨rfl, rfl, ?_⟩
                  obtain rfl := si H
                  refine T.sub (sub_to (st' := ⟨[(4, .v (.bool r47))], [], 8, []⟩) [] (by decide) rfl rfl (⟨⟨_, rfl, .one .v⟩, trivial⟩) (trivial)) ?_
                  refine T.ret ?_
                  exact RetOk.same [.v (.bool r47)] ⟨rfl, trivial⟩ rfl rfl rfl
                · replace H := cf H g46
                  refine RunD.xn rfl rfl rfl (bo g46) rfl rfl ?_
                  refine RunD.xn rfl rfl rfl (bo g46) rfl rfl ?_
                  refine RunD.xn rfl rfl rfl (bo g46) rfl rfl ?_
                  refine RunD.ot0 (x := .v (.bool false)) rfl rfl rfl rfl (.pickF (bo g46) rfl) rfl ?_
                  refine RunD.ot0 (x := .v (.bool false)) rfl rfl rfl rfl (.assignX rfl) rfl ?_
                  refine RunD.nil (by kernel_rfl) ⟨rfl, rfl, ?_⟩
                  obtain rfl := si H
                  refine T.sub (sub_to (st' := ⟨[(4, .v (.bool false))], [], 8, []⟩) [] (by decide) rfl rfl (⟨⟨_, rfl, .one .v⟩, trivial⟩) (trivial)) ?_
                  refine T.ret ?_
                  exact RetOk.same [.v (.bool false)] ⟨rfl, trivial⟩ rfl rfl rfl
              · replace H := cf H g43
                refine RunD.xn rfl rfl rfl (bo g43) rfl rfl ?_
                refine RunD.xn rfl rfl rfl (bo g43) rfl rfl ?_
                refine RunD.xn rfl rfl rfl (bo g43) rfl rfl ?_
                refine RunD.xn rfl rfl rfl (bo g43) rfl rfl ?_
                refine RunD.xn rfl rfl rfl (bo g43) rfl rfl ?_
                refine RunD.xn rfl rfl rfl (bo g43) rfl rfl ?_
                refine RunD.xn rfl rfl rfl (bo g43) rfl rfl ?_
                refine RunD.ot0 (x := .v (.bool false)) rfl rfl rfl rfl (.pickF (bo g43) rfl) rfl ?_
                refine RunD.ot0 (x := .v (.bool false)) rfl rfl rfl rfl (.moveX rfl) rfl ?_
                refine RunD.xn rfl rfl rfl rfl rfl rfl ?_
                refine RunD.xn rfl rfl rfl rfl rfl rfl ?_
                refine RunD.xn rfl rfl rfl rfl rfl rfl ?_
                refine RunD.ot0 (x := .v (.bool false)) rfl rfl rfl rfl (.pickF rfl rfl) rfl ?_
                refine RunD.ot0 (x := .v (.bool false)) rfl rfl rfl rfl (.assignX rfl) rfl ?_
                refine RunD.nil (by kernel_rfl) ⟨rfl, rfl, ?_⟩
                obtain rfl := si H
                refine T.sub (sub_to (st' := ⟨[(4, .v (.bool false))], [], 8, []⟩) [] (by decide) rfl rfl (⟨⟨_, rfl, .one .v⟩, trivial⟩) (trivial)) ?_
                refine T.ret ?_
                exact RetOk.same [.v (.bool false)] ⟨rfl, trivial⟩ rfl rfl rfl
            · replace H := cf H g42
              refine RunD.xn rfl rfl rfl (bo g42) rfl rfl ?_
              refine RunD.xn rfl rfl rfl (bo g42) rfl rfl ?_
              refine RunD.xn rfl rfl rfl (bo g42) rfl rfl ?_
              refine RunD.ot0 (x := .v (.bool false)) rfl rfl rfl rfl (.pickF (bo g42) rfl) rfl ?_
              refine RunD.ot0 (x := .v (.bool false)) rfl rfl rfl rfl (.moveX rfl) rfl ?_
              refine RunD.xn rfl rfl rfl rfl rfl rfl ?_
              refine RunD.xn rfl rfl rfl rfl rfl rfl ?_
              refine RunD.xn rfl rfl rfl rfl rfl rfl ?_
              refine RunD.xn rfl rfl rfl rfl rfl rfl ?_
              refine RunD.xn rfl rfl rfl rfl rfl rfl ?_
              refine RunD.xn rfl rfl rfl rfl rfl rfl ?_
              refine RunD.xn rfl rfl rfl rfl rfl rfl ?_
              refine RunD.ot0 (x := .v (.bool false)) rfl rfl rfl rfl (.pickF rfl rfl) rfl ?_
              refine RunD.ot0 (x := .v (.bool false)) rfl rfl rfl rfl (.moveX rfl) rfl ?_
              refine RunD.xn rfl rfl rfl rfl rfl rfl ?_
              refine RunD.xn rfl rfl rfl rfl rfl rfl ?_
              refine RunD.xn rfl rfl rfl rfl rfl rfl ?_
              refine RunD.ot0 (x := .v (.bool false)) rfl rfl rfl rfl (.pickF rfl rfl) rfl ?_
              refine RunD.ot0 (x := .v (.bool false)) rfl rfl rfl rfl (.assignX rfl) rfl ?_
              refine RunD.nil (by kernel_rfl) ⟨rfl, rfl, ?_⟩
              obtain rfl := si H
              refine T.sub (sub_to (st' := ⟨[(4, .v (.bool false))], [], 8, []⟩) [] (by decide) rfl rfl (⟨⟨_, rfl, .one .v⟩, trivial⟩) (trivial)) ?_
              refine T.ret ?_
              exact RetOk.same [.v (.bool false)] ⟨rfl, trivial⟩ rfl rfl rfl
          · replace H := cf H g41
            refine RunD.xn rfl rfl rfl (bo g41) rfl rfl ?_
            refine RunD.xn rfl rfl rfl (bo g41) rfl rfl ?_
            refine RunD.xn rfl rfl rfl (bo g41) rfl rfl ?_
            refine RunD.xn rfl rfl rfl (bo g41) rfl rfl ?_
            refine RunD.xn rfl rfl rfl (bo g41) rfl rfl ?_
            refine RunD.xn rfl rfl rfl (bo g41) rfl rfl ?_
            refine RunD.xn rfl rfl rfl (bo g41) rfl rfl ?_
            refine RunD.xn rfl rfl rfl (bo g41) rfl rfl ?_
            refine RunD.xn rfl rfl rfl (bo g41) rfl rfl ?_
            refine RunD.ot0 (x := .v (.bool false)) rfl rfl rfl rfl (.pickF (bo g41) rfl) rfl ?_
            refine RunD.ot0 (x := .v (.bool false)) rfl rfl rfl rfl (.moveX rfl) rfl ?_
            refine RunD.xn rfl rfl rfl rfl rfl rfl ?_
            refine RunD.xn rfl rfl rfl rfl rfl rfl ?_
            refine RunD.xn rfl rfl rfl rfl rfl rfl ?_
            refine RunD.ot0 (x := .v (.bool false)) rfl rfl rfl rfl (.pickF rfl rfl) rfl ?_
            refine RunD.ot0 (x := .v (.bool false)) rfl rfl rfl rfl (.moveX rfl) rfl ?_
            refine RunD.xn rfl rfl rfl rfl rfl rfl ?_
            refine RunD.xn rfl rfl rfl rfl rfl rfl ?_
            refine RunD.xn rfl rfl rfl rfl rfl rfl ?_
            refine RunD.xn rfl rfl rfl rfl rfl rfl ?_
            refine RunD.xn rfl rfl rfl rfl rfl rfl ?_
            refine RunD.xn rfl rfl rfl rfl rfl rfl ?_
            refine RunD.xn rfl rfl rfl rfl rfl rfl ?_
            refine RunD.ot0 (x := .v (.bool false)) rfl rfl rfl rfl (.pickF rfl rfl) rfl ?_
            refine RunD.ot0 (x := .v (.bool false)) rfl rfl rfl rfl (.moveX rfl) rfl ?_
            refine RunD.xn rfl rfl rfl rfl rfl rfl ?_
            refine RunD.xn rfl rfl rfl rfl rfl rfl ?_
            refine RunD.xn rfl rfl rfl rfl rfl rfl ?_
            refine RunD.ot0 (x := .v (.bool false)) rfl rfl rfl rfl (.pickF rfl rfl) rfl ?_
            refine RunD.ot0 (x := .v (.bool false)) rfl rfl rfl rfl (.assignX rfl) rfl ?_
            refine RunD.nil (by kernel_rfl) ⟨rfl, rfl, ?_⟩
            obtain rfl := si H
            refine T.sub (sub_to (st' := ⟨[(4, .v (.bool false))], [], 8, []⟩) [] (by decide) rfl rfl (⟨⟨_, rfl, .one .v⟩, trivial⟩) (trivial)) ?_
            refine T.ret ?_
            exact RetOk.same [.v (.bool false)] ⟨rfl, trivial⟩ rfl rfl rfl
        · replace H := cf H g40
          refine RunD.xn rfl rfl rfl (bo g40) rfl rfl ?_
          refine RunD.xn rfl rfl rfl (bo g40) rfl rfl ?_
          refine RunD.ot0 (x := .v (.bool false)) rfl rfl rfl rfl (.pickF (bo g40) rfl) rfl ?_
          refine RunD.ot0 (x := .v (.bool false)) rfl rfl rfl rfl (.moveX rfl) rfl ?_
          refine RunD.xn rfl rfl rfl rfl rfl rfl ?_
          refine RunD.xn rfl rfl rfl rfl rfl rfl ?_
          refine RunD.xn rfl rfl rfl rfl rfl rfl ?_
          refine RunD.xn rfl rfl rfl rfl rfl rfl ?_
          refine RunD.xn rfl rfl rfl rfl rfl rfl ?_
          refine RunD.xn rfl rfl rfl rfl rfl rfl ?_
          refine RunD.xn rfl rfl rfl rfl rfl rfl ?_
          refine RunD.xn rfl rfl rfl rfl rfl rfl ?_
          refine RunD.xn rfl rfl rfl rfl rfl rfl ?_
          refine RunD.ot0 (x := .v (.bool false)) rfl rfl rfl rfl (.pickF rfl rfl) rfl ?_
          refine RunD.ot0 (x := .v (.bool false)) rfl rfl rfl rfl (.moveX rfl) rfl ?_
          refine RunD.xn rfl rfl rfl rfl rfl rfl ?_
          refine RunD.xn rfl rfl rfl rfl rfl rfl ?_
          refine RunD.xn rfl rfl rfl rfl rfl rfl ?_
          refine RunD.ot0 (x := .v (.bool false)) rfl rfl rfl rfl (.pickF rfl rfl) rfl ?_
          refine RunD.ot0 (x := .v (.bool false)) rfl rfl rfl rfl (.moveX rfl) rfl ?_
          refine RunD.xn rfl rfl rfl rfl rfl rfl ?_
          refine RunD.xn rfl rfl rfl rfl rfl rfl ?_
          refine RunD.xn rfl rfl rfl rfl rfl rfl ?_
          refine RunD.xn rfl rfl rfl rfl rfl rfl ?_
          refine RunD.xn rfl rfl rfl rfl rfl rfl ?_
          refine RunD.xn rfl rfl rfl rfl rfl rfl ?_
          refine RunD.xn rfl rfl rfl rfl rfl rfl ?_
          refine RunD.ot0 (x := .v (.bool false)) rfl rfl rfl rfl (.pickF rfl rfl) rfl ?_
          refine RunD.ot0 (x := .v (.bool false)) rfl rfl rfl rfl (.moveX rfl) rfl ?_
          refine RunD.xn rfl rfl rfl rfl rfl rfl ?_
          refine RunD.xn rfl rfl rfl rfl rfl rfl ?_
          refine RunD.xn rfl rfl rfl rfl rfl rfl ?_
          refine RunD.ot0 (x := .v (.bool false)) rfl rfl rfl rfl (.pickF rfl rfl) rfl ?_
          refine RunD.ot0 (x := .v (.bool false)) rfl rfl rfl rfl (.assignX rfl) rfl ?_
          refine RunD.nil (by kernel_rfl) ⟨rfl, rfl, ?_⟩
          obtain rfl := si H
          refine T.sub (sub_to (st' := ⟨[(4, .v (.bool false))], [], 8, []⟩) [] (by decide) rfl rfl (⟨⟨_, rfl, .one .v⟩, trivial⟩) (trivial)) ?_
          refine T.ret ?_
          exact RetOk.same [.v (.bool false)] ⟨rfl, trivial⟩ rfl rfl rfl
      · replace H := cf H g39
        refine RunD.xn rfl rfl rfl (bo g39) rfl rfl ?_
        refine RunD.xn rfl rfl rfl (bo g39) rfl rfl ?_
        refine RunD.ot0 (x := .v (.bool false)) rfl rfl rfl rfl (.pickF (bo g39) rfl) rfl ?_
        refine RunD.ot0 (x := .v (.bool false)) rfl rfl rfl rfl (.moveX rfl) rfl ?_
        refine RunD.xn rfl rfl rfl rfl rfl rfl ?_
        refine RunD.xn rfl rfl rfl rfl rfl rfl ?_
        refine RunD.ot0 (x := .v (.bool false)) rfl rfl rfl rfl (.pickF rfl rfl) rfl ?_
        refine RunD.ot0 (x := .v (.bool false)) rfl rfl rfl rfl (.moveX rfl) rfl ?_
        refine RunD.xn rfl rfl rfl rfl rfl rfl ?_
        refine RunD.xn rfl rfl rfl rfl rfl rfl ?_
        refine RunD.xn rfl rfl rfl rfl rfl rfl ?_
        refine RunD.xn rfl rfl rfl rfl rfl rfl ?_
        refine RunD.xn rfl rfl rfl rfl rfl rfl ?_
        refine RunD.xn rfl rfl rfl rfl rfl rfl ?_
        refine RunD.xn rfl rfl rfl rfl rfl rfl ?_
        refine RunD.xn rfl rfl rfl rfl rfl rfl ?_
        refine RunD.xn rfl rfl rfl rfl rfl rfl ?_
        refine RunD.ot0 (x := .v (.bool false)) rfl rfl rfl rfl (.pickF rfl rfl) rfl ?_
        refine RunD.ot0 (x := .v (.bool false)) rfl rfl rfl rfl (.moveX rfl) rfl ?_
        refine RunD.xn rfl rfl rfl rfl rfl rfl ?_
        refine RunD.xn rfl rfl rfl rfl rfl rfl ?_
        refine RunD.xn rfl rfl rfl rfl rfl rfl ?_
        refine RunD.ot0 (x := .v (.bool false)) rfl rfl rfl rfl (.pickF rfl rfl) rfl ?_
        refine RunD.ot0 (x := .v (.bool false)) rfl rfl rfl rfl (.moveX rfl) rfl ?_
        refine RunD.xn rfl rfl rfl rfl rfl rfl ?_
        refine RunD.xn rfl rfl rfl rfl rfl rfl ?_
        refine RunD.xn rfl rfl rfl rfl rfl rfl ?_
        refine RunD.xn rfl rfl rfl rfl rfl rfl ?_
        refine RunD.xn rfl rfl rfl rfl rfl rfl ?_
        refine RunD.xn rfl rfl rfl rfl rfl rfl ?_
        refine RunD.xn rfl rfl rfl rfl rfl rfl ?_
        refine RunD.ot0 (x := .v (.bool false)) rfl rfl rfl rfl (.pickF rfl rfl) rfl ?_
        refine RunD.ot0 (x := .v (.bool false)) rfl rfl rfl rfl (.moveX rfl) rfl ?_
        refine RunD.xn rfl rfl rfl rfl rfl rfl ?_
        refine RunD.xn rfl rfl rfl rfl rfl rfl ?_
        refine RunD.xn rfl rfl rfl rfl rfl rfl ?_
        refine RunD.ot0 (x := .v (.bool false)) rfl rfl rfl rfl (.pickF rfl rfl) rfl ?_
        refine RunD.ot0 (x := .v (.bool false)) rfl rfl rfl rfl (.assignX rfl) rfl ?_
        refine RunD.nil (by kernel_rfl) ⟨rfl, rfl, ?_⟩
        obtain rfl := si H
        refine T.sub (sub_to (st' := ⟨[(4, .v (.bool false))], [], 8, []⟩) [] (by decide) rfl rfl (⟨⟨_, rfl, .one .v⟩, trivial⟩) (trivial)) ?_
        refine T.ret ?_
        exact RetOk.same [.v (.bool false)] ⟨rfl, trivial⟩ rfl rfl rfl
end Go.Proofs.Ytijfhnpmdhonhaa
