/- The Go functions come to just what their plain forms come to: one contract each. -/
import Derived.Test.YtijfhnpmdhonhaaYRecordEdges0
set_option linter.unusedVariables false
set_option linter.unusedSimpArgs false
set_option maxRecDepth 100000
namespace Go.Proofs.Ytijfhnpmdhonhaa
open Go Go.Sh Go.Px
attribute [local irreducible] Go.Sh.T Go.Sh.RunT Go.Sh.RunD
set_option maxHeartbeats 4000000 in
theorem law22_told_pc (al : Bool) (k : Nat)  (o : Bool) (H : law22_told k  = some o) : PC Try.prog al 32 [] (.v (.bool o)) := by
  unfold law22_told at H
  refine PC.of_T Try.func32 rfl rfl (n := 127) rfl rfl (.inr rfl) ?_
  intro base B w0
  refine T.st (st' := ⟨[], [], 0, []⟩) rfl ?_
  refine T.seq ?_
  refine T.region ?_
  refine RunT.ot0 (x := .v (.bool false)) rfl rfl rfl rfl (.assignX rfl) ?_
  refine RunT.nil ?_
  refine T.seq ?_
  refine T.region ?_
  refine RunT.ot0 (x := .agg [.v (.int .i64 2), .v (.int .i64 0)]) rfl rfl rfl rfl (.bu bu23 rfl) ?_
  refine RunT.ot0 (x := .agg [.v (.int .i64 258), .v (.int .i64 1), .v (.int .i64 2), .v (.int .i64 0), .v (.int .i64 5), .v (.int .i64 (-1))]) rfl rfl rfl rfl (.bu bu49 rfl) ?_
  refine RunT.ot0 (x := .agg [.v (.int .i64 2), .v (.string (⟨#[]⟩ : ByteArray)), .v (.int .i64 258), .v (.int .i64 1), .v (.int .i64 2), .v (.int .i64 0), .v (.int .i64 5), .v (.int .i64 (-1)), .v (.int .i64 0)]) rfl rfl rfl rfl (.bu bu51 rfl) ?_
  refine RunT.ot1 (x := .ptr 0 0) (p0 := (0, some (.box [.v (.int .i64 0), .v (.string (⟨#[]⟩ : ByteArray)), .v (.int .i64 0), .v (.int .i64 0), .v (.int .i64 0), .v (.int .i64 0), .v (.int .i64 0), .v (.int .i64 0), .v (.int .i64 0)]))) (n' := 8) rfl rfl rfl rfl (.allocX in51.zero rfl rfl) rfl ?_
  refine RunT.on1 (x := .junk) (p0 := (0, some (.box [.v (.int .i64 2), .v (.string (⟨#[]⟩ : ByteArray)), .v (.int .i64 258), .v (.int .i64 1), .v (.int .i64 2), .v (.int .i64 0), .v (.int .i64 5), .v (.int .i64 (-1)), .v (.int .i64 0)]))) (n' := 16) rfl rfl rfl (.storePX ty51 rfl rfl rfl rfl rfl rfl rfl) rfl ?_
  refine RunT.nil ?_
  refine T.seq ?_
  refine T.region ?_
  refine RunT.ot0 (x := .agg [.v (.int .i64 2), .v (.string (⟨#[]⟩ : ByteArray)), .v (.int .i64 258), .v (.int .i64 1), .v (.int .i64 2), .v (.int .i64 0), .v (.int .i64 5), .v (.int .i64 (-1)), .v (.int .i64 0)]) rfl rfl rfl rfl (.loadP ty51 rfl rfl rfl) ?_
  obtain ⟨r1, h2, H⟩ := bs H
  refine RunT.ot0 (x := .tup [.lst (List.map eU8 r1.1), .v (.int .i64 r1.2)]) rfl rfl rfl rfl (.callp (PC.frozen (record_Put_pc false k (Record.mk 2 (⟨#[]⟩ : ByteArray) (Order.mk 258 1 (Party.mk 2 0) 5 (-1)) 0) r1 h2)) rfl ⟨(.agg' ⟨.v, .v, .v, .v, .v, .v, .v, .v, .v, trivial⟩), trivial⟩ rfl rfl rfl) ?_
  refine RunT.ot0 (x := .tup [.lst (List.map eU8 r1.1), .v (.int .i64 r1.2)]) rfl rfl rfl rfl (.moveX rfl) ?_
  refine RunT.ot0 (x := .lst (List.map eU8 r1.1)) rfl rfl rfl rfl (.extract rfl rfl) ?_
  refine RunT.ot0 (x := .v (.int .i64 r1.2)) rfl rfl rfl rfl (.extract rfl rfl) ?_
  refine RunT.ot0 (x := .lst (List.map eU8 r1.1)) rfl rfl rfl rfl (.assignX rfl) ?_
  refine RunT.ot0 (x := .v (.int .i64 r1.2)) rfl rfl rfl rfl (.assignX rfl) ?_
  refine RunT.nil ?_
  refine T.seq ?_
  refine T.region ?_
  refine RunT.ot0 (x := .lst (List.map eU8 r1.1)) rfl rfl rfl rfl (.moveX rfl) ?_
  obtain ⟨r3, h4, H⟩ := bs H
  refine RunT.ot0 (x := .tup [.agg [.v (.int .i64 r3.1.Kind), .v (.string r3.1.Text), .v (.int .i64 r3.1.Order.Id), .v (.int .i64 r3.1.Order.State), .v (.int .i64 r3.1.Order.Party.Size), .v (.int .i64 r3.1.Order.Party.Wheels), .v (.int .i64 r3.1.Order.Until), .v (.int .i64 r3.1.Order.First), .v (.int .i64 r3.1.Time)], .v (.int .i64 r3.2)]) rfl rfl rfl rfl (.callp (record_Get_pc false k r1.1 r3 h4) rfl ⟨(.one .lst), trivial⟩ rfl rfl rfl) ?_
  refine RunT.ot0 (x := .tup [.agg [.v (.int .i64 r3.1.Kind), .v (.string r3.1.Text), .v (.int .i64 r3.1.Order.Id), .v (.int .i64 r3.1.Order.State), .v (.int .i64 r3.1.Order.Party.Size), .v (.int .i64 r3.1.Order.Party.Wheels), .v (.int .i64 r3.1.Order.Until), .v (.int .i64 r3.1.Order.First), .v (.int .i64 r3.1.Time)], .v (.int .i64 r3.2)]) rfl rfl rfl rfl (.moveX rfl) ?_
  refine RunT.ot0 (x := .agg [.v (.int .i64 r3.1.Kind), .v (.string r3.1.Text), .v (.int .i64 r3.1.Order.Id), .v (.int .i64 r3.1.Order.State), .v (.int .i64 r3.1.Order.Party.Size), .v (.int .i64 r3.1.Order.Party.Wheels), .v (.int .i64 r3.1.Order.Until), .v (.int .i64 r3.1.Order.First), .v (.int .i64 r3.1.Time)]) rfl rfl rfl rfl (.extract rfl rfl) ?_
  refine RunT.ot0 (x := .v (.int .i64 r3.2)) rfl rfl rfl rfl (.extract rfl rfl) ?_
  refine RunT.ot1 (x := .ptr 16 0) (p0 := (16, some (.box [.v (.int .i64 0), .v (.string (⟨#[]⟩ : ByteArray)), .v (.int .i64 0), .v (.int .i64 0), .v (.int .i64 0), .v (.int .i64 0), .v (.int .i64 0), .v (.int .i64 0), .v (.int .i64 0)]))) (n' := 24) rfl rfl rfl rfl (.allocX in51.zero rfl rfl) rfl ?_
  refine RunT.on1 (x := .junk) (p0 := (16, some (.box [.v (.int .i64 r3.1.Kind), .v (.string r3.1.Text), .v (.int .i64 r3.1.Order.Id), .v (.int .i64 r3.1.Order.State), .v (.int .i64 r3.1.Order.Party.Size), .v (.int .i64 r3.1.Order.Party.Wheels), .v (.int .i64 r3.1.Order.Until), .v (.int .i64 r3.1.Order.First), .v (.int .i64 r3.1.Time)]))) (n' := 32) rfl rfl rfl (.storePX ty51 rfl rfl rfl rfl rfl rfl rfl) rfl ?_
  refine RunT.ot0 (x := .v (.int .i64 r3.2)) rfl rfl rfl rfl (.assignX rfl) ?_
  refine RunT.nil ?_
  refine T.seq ?_
  refine T.sub (sub_pick [1, 2, 3, 4, 5] [0, 16] (st' := ⟨[(1, .ptr 0 0), (2, .lst (List.map eU8 r1.1)), (3, .v (.int .i64 r1.2)), (4, .ptr 16 0), (5, .v (.int .i64 r3.2))], [(0, some (.box [.v (.int .i64 2), .v (.string (⟨#[]⟩ : ByteArray)), .v (.int .i64 258), .v (.int .i64 1), .v (.int .i64 2), .v (.int .i64 0), .v (.int .i64 5), .v (.int .i64 (-1)), .v (.int .i64 0)])), (16, some (.box [.v (.int .i64 r3.1.Kind), .v (.string r3.1.Text), .v (.int .i64 r3.1.Order.Id), .v (.int .i64 r3.1.Order.State), .v (.int .i64 r3.1.Order.Party.Size), .v (.int .i64 r3.1.Order.Party.Wheels), .v (.int .i64 r3.1.Order.Until), .v (.int .i64 r3.1.Order.First), .v (.int .i64 r3.1.Time)]))], 32, []⟩) rfl rfl rfl rfl rfl) ?_
  refine T.region ?_
  refine RunT.ot0 (x := .agg [.v (.int .i64 4), .v (.string (⟨#[]⟩ : ByteArray)), .v (.int .i64 0), .v (.int .i64 0), .v (.int .i64 0), .v (.int .i64 0), .v (.int .i64 0), .v (.int .i64 0), .v (.int .i64 0)]) rfl rfl rfl rfl (.bu bu51 rfl) ?_
  obtain ⟨r5, h6, H⟩ := bs H
  refine RunT.ot0 (x := .tup [.lst (List.map eU8 r5.1), .v (.int .i64 r5.2)]) rfl rfl rfl rfl (.callp (PC.frozen (record_Put_pc false k (Record.mk 4 (⟨#[]⟩ : ByteArray) (Order.mk 0 0 (Party.mk 0 0) 0 0) 0) r5 h6)) rfl ⟨(.agg' ⟨.v, .v, .v, .v, .v, .v, .v, .v, .v, trivial⟩), trivial⟩ rfl rfl rfl) ?_
  refine RunT.ot0 (x := .tup [.lst (List.map eU8 r5.1), .v (.int .i64 r5.2)]) rfl rfl rfl rfl (.moveX rfl) ?_
  refine RunT.ot0 (x := .lst (List.map eU8 r5.1)) rfl rfl rfl rfl (.extract rfl rfl) ?_
  refine RunT.ot0 (x := .v (.int .i64 r5.2)) rfl rfl rfl rfl (.extract rfl rfl) ?_
  refine RunT.ot0 (x := .lst (List.map eU8 r5.1)) rfl rfl rfl rfl (.assignX rfl) ?_
  refine RunT.ot0 (x := .v (.int .i64 r5.2)) rfl rfl rfl rfl (.assignX rfl) ?_
  refine RunT.nil ?_
  refine T.seq ?_
  refine T.region ?_
  refine RunT.ot0 (x := .agg [.v (.int .i64 0), .v (.string (⟨#[]⟩ : ByteArray)), .v (.int .i64 0), .v (.int .i64 0), .v (.int .i64 0), .v (.int .i64 0), .v (.int .i64 0), .v (.int .i64 0), .v (.int .i64 0)]) rfl rfl rfl rfl (.bu bu51 rfl) ?_
  obtain ⟨r7, h8, H⟩ := bs H
  refine RunT.ot0 (x := .tup [.lst (List.map eU8 r7.1), .v (.int .i64 r7.2)]) rfl rfl rfl rfl (.callp (PC.frozen (record_Put_pc false k (Record.mk 0 (⟨#[]⟩ : ByteArray) (Order.mk 0 0 (Party.mk 0 0) 0 0) 0) r7 h8)) rfl ⟨(.agg' ⟨.v, .v, .v, .v, .v, .v, .v, .v, .v, trivial⟩), trivial⟩ rfl rfl rfl) ?_
  refine RunT.ot0 (x := .tup [.lst (List.map eU8 r7.1), .v (.int .i64 r7.2)]) rfl rfl rfl rfl (.moveX rfl) ?_
  refine RunT.ot0 (x := .lst (List.map eU8 r7.1)) rfl rfl rfl rfl (.extract rfl rfl) ?_
  refine RunT.ot0 (x := .v (.int .i64 r7.2)) rfl rfl rfl rfl (.extract rfl rfl) ?_
  refine RunT.ot0 (x := .lst (List.map eU8 r7.1)) rfl rfl rfl rfl (.assignX rfl) ?_
  refine RunT.ot0 (x := .v (.int .i64 r7.2)) rfl rfl rfl rfl (.assignX rfl) ?_
  refine RunT.nil ?_
  refine T.seq ?_
  refine T.region ?_
  obtain ⟨r9, h10, H⟩ := bs H
  refine RunT.ot0 (x := .tup [.agg [.v (.int .i64 r9.1.Kind), .v (.string r9.1.Text), .v (.int .i64 r9.1.Order.Id), .v (.int .i64 r9.1.Order.State), .v (.int .i64 r9.1.Order.Party.Size), .v (.int .i64 r9.1.Order.Party.Wheels), .v (.int .i64 r9.1.Order.Until), .v (.int .i64 r9.1.Order.First), .v (.int .i64 r9.1.Time)], .v (.int .i64 r9.2)]) rfl rfl rfl rfl (.callp (record_Get_pc false k [] r9 h10) rfl ⟨(.one .nil), trivial⟩ rfl rfl rfl) ?_
  refine RunT.ot0 (x := .tup [.agg [.v (.int .i64 r9.1.Kind), .v (.string r9.1.Text), .v (.int .i64 r9.1.Order.Id), .v (.int .i64 r9.1.Order.State), .v (.int .i64 r9.1.Order.Party.Size), .v (.int .i64 r9.1.Order.Party.Wheels), .v (.int .i64 r9.1.Order.Until), .v (.int .i64 r9.1.Order.First), .v (.int .i64 r9.1.Time)], .v (.int .i64 r9.2)]) rfl rfl rfl rfl (.moveX rfl) ?_
  refine RunT.ot0 (x := .agg [.v (.int .i64 r9.1.Kind), .v (.string r9.1.Text), .v (.int .i64 r9.1.Order.Id), .v (.int .i64 r9.1.Order.State), .v (.int .i64 r9.1.Order.Party.Size), .v (.int .i64 r9.1.Order.Party.Wheels), .v (.int .i64 r9.1.Order.Until), .v (.int .i64 r9.1.Order.First), .v (.int .i64 r9.1.Time)]) rfl rfl rfl rfl (.extract rfl rfl) ?_
  refine RunT.ot0 (x := .v (.int .i64 r9.2)) rfl rfl rfl rfl (.extract rfl rfl) ?_
  refine RunT.ot1 (x := .ptr 32 0) (p0 := (32, some (.box [.v (.int .i64 0), .v (.string (⟨#[]⟩ : ByteArray)), .v (.int .i64 0), .v (.int .i64 0), .v (.int .i64 0), .v (.int .i64 0), .v (.int .i64 0), .v (.int .i64 0), .v (.int .i64 0)]))) (n' := 40) rfl rfl rfl rfl (.allocX in51.zero rfl rfl) rfl ?_
  refine RunT.on1 (x := .junk) (p0 := (32, some (.box [.v (.int .i64 r9.1.Kind), .v (.string r9.1.Text), .v (.int .i64 r9.1.Order.Id), .v (.int .i64 r9.1.Order.State), .v (.int .i64 r9.1.Order.Party.Size), .v (.int .i64 r9.1.Order.Party.Wheels), .v (.int .i64 r9.1.Order.Until), .v (.int .i64 r9.1.Order.First), .v (.int .i64 r9.1.Time)]))) (n' := 48) rfl rfl rfl (.storePX ty51 rfl rfl rfl rfl rfl rfl rfl) rfl ?_
  refine RunT.ot0 (x := .v (.int .i64 r9.2)) rfl rfl rfl rfl (.assignX rfl) ?_
  refine RunT.nil ?_
  refine T.seq ?_
  refine T.sub (sub_pick [1, 2, 3, 4, 5, 6, 7, 9, 11] [0, 16] (st' := ⟨[(1, .ptr 0 0), (2, .lst (List.map eU8 r1.1)), (3, .v (.int .i64 r1.2)), (4, .ptr 16 0), (5, .v (.int .i64 r3.2)), (6, .lst (List.map eU8 r5.1)), (7, .v (.int .i64 r5.2)), (9, .v (.int .i64 r7.2)), (11, .v (.int .i64 r9.2))], [(0, some (.box [.v (.int .i64 2), .v (.string (⟨#[]⟩ : ByteArray)), .v (.int .i64 258), .v (.int .i64 1), .v (.int .i64 2), .v (.int .i64 0), .v (.int .i64 5), .v (.int .i64 (-1)), .v (.int .i64 0)])), (16, some (.box [.v (.int .i64 r3.1.Kind), .v (.string r3.1.Text), .v (.int .i64 r3.1.Order.Id), .v (.int .i64 r3.1.Order.State), .v (.int .i64 r3.1.Order.Party.Size), .v (.int .i64 r3.1.Order.Party.Wheels), .v (.int .i64 r3.1.Order.Until), .v (.int .i64 r3.1.Order.First), .v (.int .i64 r3.1.Time)]))], 48, []⟩) rfl rfl rfl rfl rfl) ?_
  refine T.region ?_
  refine RunT.ot1 (x := .own 48 0 (([4, 0]).length)) (p0 := (48, some (.arr false 1 (List.map eU8 [4, 0])))) (n' := 56) rfl rfl rfl rfl (.bslicem (d := false) (l := [4, 0]) (f := eU8) sl35 rfl rfl rfl enc_U8 rfl) rfl ?_
  obtain ⟨r11, h12, H⟩ := bs H
  refine RunT.ot0 (x := .tup [.agg [.v (.int .i64 r11.1.Kind), .v (.string r11.1.Text), .v (.int .i64 r11.1.Order.Id), .v (.int .i64 r11.1.Order.State), .v (.int .i64 r11.1.Order.Party.Size), .v (.int .i64 r11.1.Order.Party.Wheels), .v (.int .i64 r11.1.Order.Until), .v (.int .i64 r11.1.Order.First), .v (.int .i64 r11.1.Time)], .v (.int .i64 r11.2)]) rfl rfl rfl rfl (.callp (record_Get_pc false k [4, 0] r11 h12) rfl ⟨(.one (.all rfl (List.length_map _).symm)), trivial⟩ rfl rfl rfl) ?_
  refine RunT.ot0 (x := .tup [.agg [.v (.int .i64 r11.1.Kind), .v (.string r11.1.Text), .v (.int .i64 r11.1.Order.Id), .v (.int .i64 r11.1.Order.State), .v (.int .i64 r11.1.Order.Party.Size), .v (.int .i64 r11.1.Order.Party.Wheels), .v (.int .i64 r11.1.Order.Until), .v (.int .i64 r11.1.Order.First), .v (.int .i64 r11.1.Time)], .v (.int .i64 r11.2)]) rfl rfl rfl rfl (.moveX rfl) ?_
  refine RunT.ot0 (x := .agg [.v (.int .i64 r11.1.Kind), .v (.string r11.1.Text), .v (.int .i64 r11.1.Order.Id), .v (.int .i64 r11.1.Order.State), .v (.int .i64 r11.1.Order.Party.Size), .v (.int .i64 r11.1.Order.Party.Wheels), .v (.int .i64 r11.1.Order.Until), .v (.int .i64 r11.1.Order.First), .v (.int .i64 r11.1.Time)]) rfl rfl rfl rfl (.extract rfl rfl) ?_
  refine RunT.ot0 (x := .v (.int .i64 r11.2)) rfl rfl rfl rfl (.extract rfl rfl) ?_
  refine RunT.ot1 (x := .ptr 56 0) (p0 := (56, some (.box [.v (.int .i64 0), .v (.string (⟨#[]⟩ : ByteArray)), .v (.int .i64 0), .v (.int .i64 0), .v (.int .i64 0), .v (.int .i64 0), .v (.int .i64 0), .v (.int .i64 0), .v (.int .i64 0)]))) (n' := 64) rfl rfl rfl rfl (.allocX in51.zero rfl rfl) rfl ?_
  refine RunT.on1 (x := .junk) (p0 := (56, some (.box [.v (.int .i64 r11.1.Kind), .v (.string r11.1.Text), .v (.int .i64 r11.1.Order.Id), .v (.int .i64 r11.1.Order.State), .v (.int .i64 r11.1.Order.Party.Size), .v (.int .i64 r11.1.Order.Party.Wheels), .v (.int .i64 r11.1.Order.Until), .v (.int .i64 r11.1.Order.First), .v (.int .i64 r11.1.Time)]))) (n' := 72) rfl rfl rfl (.storePX ty51 rfl rfl rfl rfl rfl rfl rfl) rfl ?_
  refine RunT.ot0 (x := .v (.int .i64 r11.2)) rfl rfl rfl rfl (.assignX rfl) ?_
  refine RunT.nil ?_
  refine T.seq ?_
  refine T.region ?_
  refine RunT.ot0 (x := .v (.int .i64 r1.2)) rfl rfl rfl rfl (.moveX rfl) ?_
  refine RunT.ot0 (x := .v (.bool (decide (r1.2 = 0)))) rfl rfl rfl rfl (.bin rfl rfl (fun w => b_eql w) rfl) ?_
  refine RunT.ot0 (x := .v (.bool (decide (r1.2 = 0)))) rfl rfl rfl rfl (.moveX rfl) ?_
  refine RunT.cases (t := 48) (c := decide (r1.2 = 0)) rfl (fun g13 => ?_) (fun g13 => ?_)
  · replace H := ct H g13
    refine RunT.gt0 (x := .lst (List.map eU8 r1.1)) rfl rfl rfl (bo g13) rfl rfl (.moveX rfl) ?_
    refine RunT.gt0 (x := .v (.int .i64 (r1.1.length : Int))) rfl rfl rfl (bo g13) rfl rfl (.lenLm Try.underlying35 rfl rfl) ?_
    refine RunT.gt0 (x := .v (.bool (decide ((r1.1.length : Int) = 20)))) rfl rfl rfl (bo g13) rfl rfl (.bin rfl rfl (fun w => b_eql w) rfl) ?_
    refine RunT.ot0 (x := .v (.bool (decide ((r1.1.length : Int) = 20)))) rfl rfl rfl rfl (.pickT (bo g13) rfl) ?_
    refine RunT.ot0 (x := .v (.bool (decide ((r1.1.length : Int) = 20)))) rfl rfl rfl rfl (.moveX rfl) ?_
    refine RunT.cases (t := 53) (c := decide ((r1.1.length : Int) = 20)) rfl (fun g14 => ?_) (fun g14 => ?_)
    · replace H := ct H g14
      refine RunT.gt0 (x := .lst (List.map eU8 r1.1)) rfl rfl rfl (bo g14) rfl rfl (.moveX rfl) ?_
      obtain ⟨y15, h16, H⟩ := bs H
      refine RunT.gt0 (x := .rptr [.v (.int .u8 y15)]) rfl rfl rfl (bo g14) rfl rfl (.idxLX h16 enc_U8 sl35 rfl rfl rfl) ?_
      refine RunT.gt0 (x := .v (.int .u8 y15)) rfl rfl rfl (bo g14) rfl rfl (.loadR ty5 rfl rfl) ?_
      refine RunT.gt0 (x := .v (.bool (decide (y15 = 2)))) rfl rfl rfl (bo g14) rfl rfl (.bin rfl rfl (fun w => b_eql w) rfl) ?_
      refine RunT.ot0 (x := .v (.bool (decide (y15 = 2)))) rfl rfl rfl rfl (.pickT (bo g14) rfl) ?_
      refine RunT.ot0 (x := .v (.bool (decide (y15 = 2)))) rfl rfl rfl rfl (.moveX rfl) ?_
      refine RunT.cases (t := 59) (c := decide (y15 = 2)) rfl (fun g17 => ?_) (fun g17 => ?_)
      · replace H := ct H g17
        refine RunT.gt0 (x := .lst (List.map eU8 r1.1)) rfl rfl rfl (bo g17) rfl rfl (.moveX rfl) ?_
        obtain ⟨y18, h19, H⟩ := bs H
        refine RunT.gt0 (x := .rptr [.v (.int .u8 y18)]) rfl rfl rfl (bo g17) rfl rfl (.idxLX h19 enc_U8 sl35 rfl rfl rfl) ?_
        refine RunT.gt0 (x := .v (.int .u8 y18)) rfl rfl rfl (bo g17) rfl rfl (.loadR ty5 rfl rfl) ?_
        refine RunT.gt0 (x := .v (.bool (decide (y18 = 2)))) rfl rfl rfl (bo g17) rfl rfl (.bin rfl rfl (fun w => b_eql w) rfl) ?_
        refine RunT.ot0 (x := .v (.bool (decide (y18 = 2)))) rfl rfl rfl rfl (.pickT (bo g17) rfl) ?_
        refine RunT.ot0 (x := .v (.bool (decide (y18 = 2)))) rfl rfl rfl rfl (.moveX rfl) ?_
        refine RunT.cases (t := 65) (c := decide (y18 = 2)) rfl (fun g20 => ?_) (fun g20 => ?_)
        · replace H := ct H g20
          refine RunT.gt0 (x := .lst (List.map eU8 r1.1)) rfl rfl rfl (bo g20) rfl rfl (.moveX rfl) ?_
          obtain ⟨y21, h22, H⟩ := bs H
          refine RunT.gt0 (x := .rptr [.v (.int .u8 y21)]) rfl rfl rfl (bo g20) rfl rfl (.idxLX h22 enc_U8 sl35 rfl rfl rfl) ?_
          refine RunT.gt0 (x := .v (.int .u8 y21)) rfl rfl rfl (bo g20) rfl rfl (.loadR ty5 rfl rfl) ?_
          refine RunT.gt0 (x := .v (.bool (decide (y21 = 1)))) rfl rfl rfl (bo g20) rfl rfl (.bin rfl rfl (fun w => b_eql w) rfl) ?_
          refine RunT.ot0 (x := .v (.bool (decide (y21 = 1)))) rfl rfl rfl rfl (.pickT (bo g20) rfl) ?_
          refine RunT.ot0 (x := .v (.bool (decide (y21 = 1)))) rfl rfl rfl rfl (.moveX rfl) ?_
          refine RunT.cases (t := 71) (c := decide (y21 = 1)) rfl (fun g23 => ?_) (fun g23 => ?_)
          · replace H := ct H g23
            refine RunT.gt0 (x := .lst (List.map eU8 r1.1)) rfl rfl rfl (bo g23) rfl rfl (.moveX rfl) ?_
            obtain ⟨y24, h25, H⟩ := bs H
            refine RunT.gt0 (x := .rptr [.v (.int .u8 y24)]) rfl rfl rfl (bo g23) rfl rfl (.idxLX h25 enc_U8 sl35 rfl rfl rfl) ?_
            refine RunT.gt0 (x := .v (.int .u8 y24)) rfl rfl rfl (bo g23) rfl rfl (.loadR ty5 rfl rfl) ?_
            refine RunT.gt0 (x := .v (.bool (decide (y24 = 0)))) rfl rfl rfl (bo g23) rfl rfl (.bin rfl rfl (fun w => b_eql w) rfl) ?_
            refine RunT.ot0 (x := .v (.bool (decide (y24 = 0)))) rfl rfl rfl rfl (.pickT (bo g23) rfl) ?_
            refine RunT.ot0 (x := .v (.bool (decide (y24 = 0)))) rfl rfl rfl rfl (.moveX rfl) ?_
            refine RunT.cases (t := 77) (c := decide (y24 = 0)) rfl (fun g26 => ?_) (fun g26 => ?_)
            · replace H := ct H g26
              refine RunT.gt0 (x := .v (.int .i64 r3.2)) rfl rfl rfl (bo g26) rfl rfl (.moveX rfl) ?_
              refine RunT.gt0 (x := .v (.bool (decide (r3.2 = 0)))) rfl rfl rfl (bo g26) rfl rfl (.bin rfl rfl (fun w => b_eql w) rfl) ?_
              refine RunT.ot0 (x := .v (.bool (decide (r3.2 = 0)))) rfl rfl rfl rfl (.pickT (bo g26) rfl) ?_
              refine RunT.ot0 (x := .v (.bool (decide (r3.2 = 0)))) rfl rfl rfl rfl (.moveX rfl) ?_
              refine RunT.cases (t := 81) (c := decide (r3.2 = 0)) rfl (fun g27 => ?_) (fun g27 => ?_)
              · replace H := ct H g27
                refine RunT.gt0 (x := .agg [.v (.int .i64 r3.1.Kind), .v (.string r3.1.Text), .v (.int .i64 r3.1.Order.Id), .v (.int .i64 r3.1.Order.State), .v (.int .i64 r3.1.Order.Party.Size), .v (.int .i64 r3.1.Order.Party.Wheels), .v (.int .i64 r3.1.Order.Until), .v (.int .i64 r3.1.Order.First), .v (.int .i64 r3.1.Time)]) rfl rfl rfl (bo g27) rfl rfl (.loadP ty51 rfl rfl rfl) ?_
                refine RunT.gt0 (x := .agg [.v (.int .i64 2), .v (.string (⟨#[]⟩ : ByteArray)), .v (.int .i64 258), .v (.int .i64 1), .v (.int .i64 2), .v (.int .i64 0), .v (.int .i64 5), .v (.int .i64 (-1)), .v (.int .i64 0)]) rfl rfl rfl (bo g27) rfl rfl (.loadP ty51 rfl rfl rfl) ?_
                refine RunT.gt0 (x := .v (.bool (decide (r3.1 = Record.mk 2 (⟨#[]⟩ : ByteArray) (Order.mk 258 1 (Party.mk 2 0) 5 (-1)) 0)))) rfl rfl rfl (bo g27) rfl rfl (.binA (us := us_Record (r3.1)) (vs := us_Record (Record.mk 2 (⟨#[]⟩ : ByteArray) (Order.mk 258 1 (Party.mk 2 0) 5 (-1)) 0)) rfl rfl (fun w => eq_Record (r3.1) (Record.mk 2 (⟨#[]⟩ : ByteArray) (Order.mk 258 1 (Party.mk 2 0) 5 (-1)) 0) w) rfl) ?_
                refine RunT.ot0 (x := .v (.bool (decide (r3.1 = Record.mk 2 (⟨#[]⟩ : ByteArray) (Order.mk 258 1 (Party.mk 2 0) 5 (-1)) 0)))) rfl rfl rfl rfl (.pickT (bo g27) rfl) ?_
                refine RunT.ot0 (x := .v (.bool (decide (r3.1 = Record.mk 2 (⟨#[]⟩ : ByteArray) (Order.mk 258 1 (Party.mk 2 0) 5 (-1)) 0)))) rfl rfl rfl rfl (.moveX rfl) ?_
                refine RunT.cases (t := 86) (c := decide (r3.1 = Record.mk 2 (⟨#[]⟩ : ByteArray) (Order.mk 258 1 (Party.mk 2 0) 5 (-1)) 0)) rfl (fun g28 => ?_) (fun g28 => ?_)
                · replace H := ct H g28
                  refine RunT.gt0 (x := .v (.int .i64 r5.2)) rfl rfl rfl (bo g28) rfl rfl (.moveX rfl) ?_
                  refine RunT.gt0 (x := .v (.bool (decide (r5.2 = 0)))) rfl rfl rfl (bo g28) rfl rfl (.bin rfl rfl (fun w => b_eql w) rfl) ?_
                  refine RunT.ot0 (x := .v (.bool (decide (r5.2 = 0)))) rfl rfl rfl rfl (.pickT (bo g28) rfl) ?_
                  refine RunT.ot0 (x := .v (.bool (decide (r5.2 = 0)))) rfl rfl rfl rfl (.moveX rfl) ?_
                  refine RunT.cases (t := 90) (c := decide (r5.2 = 0)) rfl (fun g29 => ?_) (fun g29 => ?_)
                  · replace H := ct H g29
                    refine RunT.gt0 (x := .lst (List.map eU8 r5.1)) rfl rfl rfl (bo g29) rfl rfl (.moveX rfl) ?_
                    refine RunT.gt0 (x := .v (.string (strOf r5.1))) rfl rfl rfl (bo g29) rfl rfl (.toStrm (d := false) (m := r5.1) (f := eU8) Try.underlying35 Try.underlying5 Try.underlying9 rfl (.lstm Try.underlying35 enc_U8) (fun _ => rfl)) ?_
                    refine RunT.gt0 (x := .v (.bool ((strOf r5.1) == (⟨#[4]⟩ : ByteArray)))) rfl rfl rfl (bo g29) rfl rfl (.bin rfl rfl (fun w => eqStr w) rfl) ?_
                    refine RunT.ot0 (x := .v (.bool ((strOf r5.1) == (⟨#[4]⟩ : ByteArray)))) rfl rfl rfl rfl (.pickT (bo g29) rfl) ?_
                    refine RunT.ot0 (x := .v (.bool ((strOf r5.1) == (⟨#[4]⟩ : ByteArray)))) rfl rfl rfl rfl (.moveX rfl) ?_
                    refine RunT.cases (t := 95) (c := (strOf r5.1) == (⟨#[4]⟩ : ByteArray)) rfl (fun g30 => ?_) (fun g30 => ?_)
                    · replace H := ct H g30
                      refine RunT.gt0 (x := .v (.int .i64 r7.2)) rfl rfl rfl (bo g30) rfl rfl (.moveX rfl) ?_
                      refine RunT.gt0 (x := .v (.bool (decide (r7.2 = 1)))) rfl rfl rfl (bo g30) rfl rfl (.bin rfl rfl (fun w => b_eql w) rfl) ?_
                      refine RunT.ot0 (x := .v (.bool (decide (r7.2 = 1)))) rfl rfl rfl rfl (.pickT (bo g30) rfl) ?_
                      refine RunT.ot0 (x := .v (.bool (decide (r7.2 = 1)))) rfl rfl rfl rfl (.moveX rfl) ?_
                      refine RunT.cases (t := 99) (c := decide (r7.2 = 1)) rfl (fun g31 => ?_) (fun g31 => ?_)
                      · replace H := ct H g31
                        refine RunT.gt0 (x := .v (.int .i64 r9.2)) rfl rfl rfl (bo g31) rfl rfl (.moveX rfl) ?_
                        refine RunT.gt0 (x := .v (.bool (decide (r9.2 = 10)))) rfl rfl rfl (bo g31) rfl rfl (.bin rfl rfl (fun w => b_eql w) rfl) ?_
                        refine RunT.ot0 (x := .v (.bool (decide (r9.2 = 10)))) rfl rfl rfl rfl (.pickT (bo g31) rfl) ?_
                        refine RunT.ot0 (x := .v (.bool (decide (r9.2 = 10)))) rfl rfl rfl rfl (.moveX rfl) ?_
                        refine RunT.cases (t := 103) (c := decide (r9.2 = 10)) rfl (fun g32 => ?_) (fun g32 => ?_)
                        · replace H := ct H g32
                          refine RunT.gt0 (x := .v (.int .i64 r11.2)) rfl rfl rfl (bo g32) rfl rfl (.moveX rfl) ?_
                          refine RunT.gt0 (x := .v (.bool (decide (r11.2 = 10)))) rfl rfl rfl (bo g32) rfl rfl (.bin rfl rfl (fun w => b_eql w) rfl) ?_
                          refine RunT.ot0 (x := .v (.bool (decide (r11.2 = 10)))) rfl rfl rfl rfl (.pickT (bo g32) rfl) ?_
                          refine RunT.ot0 (x := .v (.bool (decide (r11.2 = 10)))) rfl rfl rfl rfl (.moveX rfl) ?_
                          refine RunT.cases (t := 107) (c := decide (r11.2 = 10)) rfl (fun g33 => ?_) (fun g33 => ?_)
                          · replace H := ct H g33
                            refine RunT.gt0 (x := .agg [.v (.int .i64 2), .v (.string (⟨#[]⟩ : ByteArray)), .v (.int .i64 258), .v (.int .i64 1), .v (.int .i64 2), .v (.int .i64 0), .v (.int .i64 5), .v (.int .i64 (-1)), .v (.int .i64 0)]) rfl rfl rfl (bo g33) rfl rfl (.loadP ty51 rfl rfl rfl) ?_
                            obtain ⟨r34, h35, H⟩ := bs H
                            refine RunT.gt0 (x := .v (.bool r34)) rfl rfl rfl (bo g33) rfl rfl (.callp (record_May_pc false k (Record.mk 2 (⟨#[]⟩ : ByteArray) (Order.mk 258 1 (Party.mk 2 0) 5 (-1)) 0) r34 h35) rfl ⟨(.agg' ⟨.v, .v, .v, .v, .v, .v, .v, .v, .v, trivial⟩), trivial⟩ rfl rfl rfl) ?_
                            refine RunT.ot0 (x := .v (.bool r34)) rfl rfl rfl rfl (.pickT (bo g33) rfl) ?_
                            refine RunT.ot0 (x := .v (.bool r34)) rfl rfl rfl rfl (.moveX rfl) ?_
                            refine RunT.cases (t := 111) (c := r34) rfl (fun g36 => ?_) (fun g36 => ?_)
                            · replace H := ct H g36
                              refine RunT.gt0 (x := .agg [.v (.int .i64 3), .v (.string (⟨#[]⟩ : ByteArray)), .v (.int .i64 0), .v (.int .i64 0), .v (.int .i64 0), .v (.int .i64 0), .v (.int .i64 0), .v (.int .i64 0), .v (.int .i64 (-1))]) rfl rfl rfl (bo g36) rfl rfl (.bu bu51 rfl) ?_
                              obtain ⟨r37, h38, H⟩ := bs H
                              refine RunT.gt0 (x := .v (.bool r37)) rfl rfl rfl (bo g36) rfl rfl (.callp (record_May_pc false k (Record.mk 3 (⟨#[]⟩ : ByteArray) (Order.mk 0 0 (Party.mk 0 0) 0 0) (-1)) r37 h38) rfl ⟨(.agg' ⟨.v, .v, .v, .v, .v, .v, .v, .v, .v, trivial⟩), trivial⟩ rfl rfl rfl) ?_
                              refine RunT.gt0 (x := .v (.bool (!r37))) rfl rfl rfl (bo g36) rfl rfl (.un rfl (fun w => u_not w) rfl) ?_
                              refine RunT.ot0 (x := .v (.bool (!r37))) rfl rfl rfl rfl (.pickT (bo g36) rfl) ?_
                              refine RunT.ot0 (x := .v (.bool (!r37))) rfl rfl rfl rfl (.moveX rfl) ?_
                              refine RunT.cases (t := 116) (c := !r37) rfl (fun g39 => ?_) (fun g39 => ?_)
                              · replace H := ct H g39
                                refine RunT.gt0 (x := .agg [.v (.int .i64 2), .v (.string (⟨#[]⟩ : ByteArray)), .v (.int .i64 258), .v (.int .i64 1), .v (.int .i64 2), .v (.int .i64 0), .v (.int .i64 5), .v (.int .i64 (-1)), .v (.int .i64 0)]) rfl rfl rfl (bo g39) rfl rfl (.loadP ty51 rfl rfl rfl) ?_
                                refine RunT.gt0 (x := .agg [.v (.int .i64 r3.1.Kind), .v (.string r3.1.Text), .v (.int .i64 r3.1.Order.Id), .v (.int .i64 r3.1.Order.State), .v (.int .i64 r3.1.Order.Party.Size), .v (.int .i64 r3.1.Order.Party.Wheels), .v (.int .i64 r3.1.Order.Until), .v (.int .i64 r3.1.Order.First), .v (.int .i64 r3.1.Time)]) rfl rfl rfl (bo g39) rfl rfl (.loadP ty51 rfl rfl rfl) ?_
                                obtain ⟨r40, h41, H⟩ := bs H
                                refine RunT.gt0 (x := .v (.bool r40)) rfl rfl rfl (bo g39) rfl rfl (.callp (record_Same_pc false k (Record.mk 2 (⟨#[]⟩ : ByteArray) (Order.mk 258 1 (Party.mk 2 0) 5 (-1)) 0) r3.1 r40 h41) rfl ⟨(.agg' ⟨.v, .v, .v, .v, .v, .v, .v, .v, .v, trivial⟩), (.agg' ⟨.v, .v, .v, .v, .v, .v, .v, .v, .v, trivial⟩), trivial⟩ rfl rfl rfl) ?_
                                refine RunT.ot0 (x := .v (.bool r40)) rfl rfl rfl rfl (.pickT (bo g39) rfl) ?_
                                refine RunT.ot0 (x := .v (.bool r40)) rfl rfl rfl rfl (.moveX rfl) ?_
                                refine RunT.cases (t := 121) (c := r40) rfl (fun g42 => ?_) (fun g42 => ?_)
                                · replace H := ct H g42
                                  refine RunT.gt0 (x := .agg [.v (.int .i64 2), .v (.string (⟨#[]⟩ : ByteArray)), .v (.int .i64 258), .v (.int .i64 1), .v (.int .i64 2), .v (.int .i64 0), .v (.int .i64 5), .v (.int .i64 (-1)), .v (.int .i64 0)]) rfl rfl rfl (bo g42) rfl rfl (.loadP ty51 rfl rfl rfl) ?_
                                  refine RunT.gt0 (x := .agg [.v (.int .i64 0), .v (.string (⟨#[]⟩ : ByteArray)), .v (.int .i64 0), .v (.int .i64 0), .v (.int .i64 0), .v (.int .i64 0), .v (.int .i64 0), .v (.int .i64 0), .v (.int .i64 0)]) rfl rfl rfl (bo g42) rfl rfl (.bu bu51 rfl) ?_
                                  obtain ⟨r43, h44, H⟩ := bs H
                                  refine RunT.gt0 (x := .v (.bool r43)) rfl rfl rfl (bo g42) rfl rfl (.callp (record_Same_pc false k (Record.mk 2 (⟨#[]⟩ : ByteArray) (Order.mk 258 1 (Party.mk 2 0) 5 (-1)) 0) (Record.mk 0 (⟨#[]⟩ : ByteArray) (Order.mk 0 0 (Party.mk 0 0) 0 0) 0) r43 h44) rfl ⟨(.agg' ⟨.v, .v, .v, .v, .v, .v, .v, .v, .v, trivial⟩), (.agg' ⟨.v, .v, .v, .v, .v, .v, .v, .v, .v, trivial⟩), trivial⟩ rfl rfl rfl) ?_
                                  refine RunT.gt0 (x := .v (.bool (!r43))) rfl rfl rfl (bo g42) rfl rfl (.un rfl (fun w => u_not w) rfl) ?_
                                  refine RunT.ot0 (x := .v (.bool (!r43))) rfl rfl rfl rfl (.pickT (bo g42) rfl) ?_
                                  refine RunT.ot0 (x := .v (.bool (!r43))) rfl rfl rfl rfl (.assignX rfl) ?_
                                  refine RunT.nil ?_
                                  obtain rfl := si H
                                  refine T.sub (sub_to (st' := ⟨[(0, .v (.bool (!r43)))], [], 8, []⟩) [] (by decide) rfl rfl (⟨⟨_, rfl, .one .v⟩, trivial⟩) (trivial)) ?_
                                  refine T.ret ?_
                                  exact RetOk.same [.v (.bool (!r43))] ⟨rfl, trivial⟩ rfl rfl rfl
                                · replace H := cf H g42
                                  refine RunT.xn rfl rfl rfl (bo g42) rfl rfl ?_
                                  refine RunT.xn rfl rfl rfl (bo g42) rfl rfl ?_
                                  refine RunT.xn rfl rfl rfl (bo g42) rfl rfl ?_
                                  refine RunT.xn rfl rfl rfl (bo g42) rfl rfl ?_
                                  refine RunT.ot0 (x := .v (.bool false)) rfl rfl rfl rfl (.pickF (bo g42) rfl) ?_
                                  refine RunT.ot0 (x := .v (.bool false)) rfl rfl rfl rfl (.assignX rfl) ?_
                                  refine RunT.nil ?_
                                  obtain rfl := si H
                                  refine T.sub (sub_to (st' := ⟨[(0, .v (.bool false))], [], 8, []⟩) [] (by decide) rfl rfl (⟨⟨_, rfl, .one .v⟩, trivial⟩) (trivial)) ?_
                                  refine T.ret ?_
                                  exact RetOk.same [.v (.bool false)] ⟨rfl, trivial⟩ rfl rfl rfl
                              · replace H := cf H g39
                                refine RunT.xn rfl rfl rfl (bo g39) rfl rfl ?_
                                refine RunT.xn rfl rfl rfl (bo g39) rfl rfl ?_
                                refine RunT.xn rfl rfl rfl (bo g39) rfl rfl ?_
                                refine RunT.ot0 (x := .v (.bool false)) rfl rfl rfl rfl (.pickF (bo g39) rfl) ?_
                                refine RunT.ot0 (x := .v (.bool false)) rfl rfl rfl rfl (.moveX rfl) ?_
                                refine RunT.xn rfl rfl rfl rfl rfl rfl ?_
                                refine RunT.xn rfl rfl rfl rfl rfl rfl ?_
                                refine RunT.xn rfl rfl rfl rfl rfl rfl ?_
                                refine RunT.xn rfl rfl rfl rfl rfl rfl ?_
                                refine RunT.ot0 (x := .v (.bool false)) rfl rfl rfl rfl (.pickF rfl rfl) ?_
                                refine RunT.ot0 (x := .v (.bool false)) rfl rfl rfl rfl (.assignX rfl) ?_
                                refine RunT.nil ?_
                                obtain rfl := si H
                                refine T.sub (sub_to (st' := ⟨[(0, .v (.bool false))], [], 8, []⟩) [] (by decide) rfl rfl (⟨⟨_, rfl, .one .v⟩, trivial⟩) (trivial)) ?_
                                refine T.ret ?_
                                exact RetOk.same [.v (.bool false)] ⟨rfl, trivial⟩ rfl rfl rfl
                            · replace H := cf H g36
                              refine RunT.xn rfl rfl rfl (bo g36) rfl rfl ?_
                              refine RunT.xn rfl rfl rfl (bo g36) rfl rfl ?_
                              refine RunT.xn rfl rfl rfl (bo g36) rfl rfl ?_
                              refine RunT.ot0 (x := .v (.bool false)) rfl rfl rfl rfl (.pickF (bo g36) rfl) ?_
                              refine RunT.ot0 (x := .v (.bool false)) rfl rfl rfl rfl (.moveX rfl) ?_
                              refine RunT.xn rfl rfl rfl rfl rfl rfl ?_
                              refine RunT.xn rfl rfl rfl rfl rfl rfl ?_
                              refine RunT.xn rfl rfl rfl rfl rfl rfl ?_
                              refine RunT.ot0 (x := .v (.bool false)) rfl rfl rfl rfl (.pickF rfl rfl) ?_
                              refine RunT.ot0 (x := .v (.bool false)) rfl rfl rfl rfl (.moveX rfl) ?_
                              refine RunT.xn rfl rfl rfl rfl rfl rfl ?_
                              refine RunT.xn rfl rfl rfl rfl rfl rfl ?_
                              refine RunT.xn rfl rfl rfl rfl rfl rfl ?_
                              refine RunT.xn rfl rfl rfl rfl rfl rfl ?_
                              refine RunT.ot0 (x := .v (.bool false)) rfl rfl rfl rfl (.pickF rfl rfl) ?_
                              refine RunT.ot0 (x := .v (.bool false)) rfl rfl rfl rfl (.assignX rfl) ?_
                              refine RunT.nil ?_
                              obtain rfl := si H
                              refine T.sub (sub_to (st' := ⟨[(0, .v (.bool false))], [], 8, []⟩) [] (by decide) rfl rfl (⟨⟨_, rfl, .one .v⟩, trivial⟩) (trivial)) ?_
                              refine T.ret ?_
                              exact RetOk.same [.v (.bool false)] ⟨rfl, trivial⟩ rfl rfl rfl
                          · replace H := cf H g33
                            refine RunT.xn rfl rfl rfl (bo g33) rfl rfl ?_
                            refine RunT.xn rfl rfl rfl (bo g33) rfl rfl ?_
                            refine RunT.ot0 (x := .v (.bool false)) rfl rfl rfl rfl (.pickF (bo g33) rfl) ?_
                            refine RunT.ot0 (x := .v (.bool false)) rfl rfl rfl rfl (.moveX rfl) ?_
                            refine RunT.xn rfl rfl rfl rfl rfl rfl ?_
                            refine RunT.xn rfl rfl rfl rfl rfl rfl ?_
                            refine RunT.xn rfl rfl rfl rfl rfl rfl ?_
                            refine RunT.ot0 (x := .v (.bool false)) rfl rfl rfl rfl (.pickF rfl rfl) ?_
                            refine RunT.ot0 (x := .v (.bool false)) rfl rfl rfl rfl (.moveX rfl) ?_
                            refine RunT.xn rfl rfl rfl rfl rfl rfl ?_
                            refine RunT.xn rfl rfl rfl rfl rfl rfl ?_
                            refine RunT.xn rfl rfl rfl rfl rfl rfl ?_
                            refine RunT.ot0 (x := .v (.bool false)) rfl rfl rfl rfl (.pickF rfl rfl) ?_
                            refine RunT.ot0 (x := .v (.bool false)) rfl rfl rfl rfl (.moveX rfl) ?_
                            refine RunT.xn rfl rfl rfl rfl rfl rfl ?_
                            refine RunT.xn rfl rfl rfl rfl rfl rfl ?_
                            refine RunT.xn rfl rfl rfl rfl rfl rfl ?_
                            refine RunT.xn rfl rfl rfl rfl rfl rfl ?_
                            refine RunT.ot0 (x := .v (.bool false)) rfl rfl rfl rfl (.pickF rfl rfl) ?_
                            refine RunT.ot0 (x := .v (.bool false)) rfl rfl rfl rfl (.assignX rfl) ?_
                            refine RunT.nil ?_
                            obtain rfl := si H
                            refine T.sub (sub_to (st' := ⟨[(0, .v (.bool false))], [], 8, []⟩) [] (by decide) rfl rfl (⟨⟨_, rfl, .one .v⟩, trivial⟩) (trivial)) ?_
                            refine T.ret ?_
                            exact RetOk.same [.v (.bool false)] ⟨rfl, trivial⟩ rfl rfl rfl
                        · replace H := cf H g32
                          refine RunT.xn rfl rfl rfl (bo g32) rfl rfl ?_
                          refine RunT.xn rfl rfl rfl (bo g32) rfl rfl ?_
                          refine RunT.ot0 (x := .v (.bool false)) rfl rfl rfl rfl (.pickF (bo g32) rfl) ?_
                          refine RunT.ot0 (x := .v (.bool false)) rfl rfl rfl rfl (.moveX rfl) ?_
                          refine RunT.xn rfl rfl rfl rfl rfl rfl ?_
                          refine RunT.xn rfl rfl rfl rfl rfl rfl ?_
                          refine RunT.ot0 (x := .v (.bool false)) rfl rfl rfl rfl (.pickF rfl rfl) ?_
                          refine RunT.ot0 (x := .v (.bool false)) rfl rfl rfl rfl (.moveX rfl) ?_
                          refine RunT.xn rfl rfl rfl rfl rfl rfl ?_
                          refine RunT.xn rfl rfl rfl rfl rfl rfl ?_
                          refine RunT.xn rfl rfl rfl rfl rfl rfl ?_
                          refine RunT.ot0 (x := .v (.bool false)) rfl rfl rfl rfl (.pickF rfl rfl) ?_
                          refine RunT.ot0 (x := .v (.bool false)) rfl rfl rfl rfl (.moveX rfl) ?_
                          refine RunT.xn rfl rfl rfl rfl rfl rfl ?_
                          refine RunT.xn rfl rfl rfl rfl rfl rfl ?_
                          refine RunT.xn rfl rfl rfl rfl rfl rfl ?_
                          refine RunT.ot0 (x := .v (.bool false)) rfl rfl rfl rfl (.pickF rfl rfl) ?_
                          refine RunT.ot0 (x := .v (.bool false)) rfl rfl rfl rfl (.moveX rfl) ?_
                          refine RunT.xn rfl rfl rfl rfl rfl rfl ?_
                          refine RunT.xn rfl rfl rfl rfl rfl rfl ?_
                          refine RunT.xn rfl rfl rfl rfl rfl rfl ?_
                          refine RunT.xn rfl rfl rfl rfl rfl rfl ?_
                          refine RunT.ot0 (x := .v (.bool false)) rfl rfl rfl rfl (.pickF rfl rfl) ?_
                          refine RunT.ot0 (x := .v (.bool false)) rfl rfl rfl rfl (.assignX rfl) ?_
                          refine RunT.nil ?_
                          obtain rfl := si H
                          refine T.sub (sub_to (st' := ⟨[(0, .v (.bool false))], [], 8, []⟩) [] (by decide) rfl rfl (⟨⟨_, rfl, .one .v⟩, trivial⟩) (trivial)) ?_
                          refine T.ret ?_
                          exact RetOk.same [.v (.bool false)] ⟨rfl, trivial⟩ rfl rfl rfl
                      · replace H := cf H g31
                        refine RunT.xn rfl rfl rfl (bo g31) rfl rfl ?_
                        refine RunT.xn rfl rfl rfl (bo g31) rfl rfl ?_
                        refine RunT.ot0 (x := .v (.bool false)) rfl rfl rfl rfl (.pickF (bo g31) rfl) ?_
                        refine RunT.ot0 (x := .v (.bool false)) rfl rfl rfl rfl (.moveX rfl) ?_
                        refine RunT.xn rfl rfl rfl rfl rfl rfl ?_
                        refine RunT.xn rfl rfl rfl rfl rfl rfl ?_
                        refine RunT.ot0 (x := .v (.bool false)) rfl rfl rfl rfl (.pickF rfl rfl) ?_
                        refine RunT.ot0 (x := .v (.bool false)) rfl rfl rfl rfl (.moveX rfl) ?_
                        refine RunT.xn rfl rfl rfl rfl rfl rfl ?_
                        refine RunT.xn rfl rfl rfl rfl rfl rfl ?_
                        refine RunT.ot0 (x := .v (.bool false)) rfl rfl rfl rfl (.pickF rfl rfl) ?_
                        refine RunT.ot0 (x := .v (.bool false)) rfl rfl rfl rfl (.moveX rfl) ?_
                        refine RunT.xn rfl rfl rfl rfl rfl rfl ?_
                        refine RunT.xn rfl rfl rfl rfl rfl rfl ?_
                        refine RunT.xn rfl rfl rfl rfl rfl rfl ?_
                        refine RunT.ot0 (x := .v (.bool false)) rfl rfl rfl rfl (.pickF rfl rfl) ?_
                        refine RunT.ot0 (x := .v (.bool false)) rfl rfl rfl rfl (.moveX rfl) ?_
                        refine RunT.xn rfl rfl rfl rfl rfl rfl ?_
                        refine RunT.xn rfl rfl rfl rfl rfl rfl ?_
                        refine RunT.xn rfl rfl rfl rfl rfl rfl ?_
                        refine RunT.ot0 (x := .v (.bool false)) rfl rfl rfl rfl (.pickF rfl rfl) ?_
                        refine RunT.ot0 (x := .v (.bool false)) rfl rfl rfl rfl (.moveX rfl) ?_
                        refine RunT.xn rfl rfl rfl rfl rfl rfl ?_
                        refine RunT.xn rfl rfl rfl rfl rfl rfl ?_
                        refine RunT.xn rfl rfl rfl rfl rfl rfl ?_
                        refine RunT.xn rfl rfl rfl rfl rfl rfl ?_
                        refine RunT.ot0 (x := .v (.bool false)) rfl rfl rfl rfl (.pickF rfl rfl) ?_
                        refine RunT.ot0 (x := .v (.bool false)) rfl rfl rfl rfl (.assignX rfl) ?_
                        refine RunT.nil ?_
                        obtain rfl := si H
                        refine T.sub (sub_to (st' := ⟨[(0, .v (.bool false))], [], 8, []⟩) [] (by decide) rfl rfl (⟨⟨_, rfl, .one .v⟩, trivial⟩) (trivial)) ?_
                        refine T.ret ?_
                        exact RetOk.same [.v (.bool false)] ⟨rfl, trivial⟩ rfl rfl rfl
                    · replace H := cf H g30
                      refine RunT.xn rfl rfl rfl (bo g30) rfl rfl ?_
                      refine RunT.xn rfl rfl rfl (bo g30) rfl rfl ?_
                      refine RunT.ot0 (x := .v (.bool false)) rfl rfl rfl rfl (.pickF (bo g30) rfl) ?_
                      refine RunT.ot0 (x := .v (.bool false)) rfl rfl rfl rfl (.moveX rfl) ?_
                      refine RunT.xn rfl rfl rfl rfl rfl rfl ?_
                      refine RunT.xn rfl rfl rfl rfl rfl rfl ?_
                      refine RunT.ot0 (x := .v (.bool false)) rfl rfl rfl rfl (.pickF rfl rfl) ?_
                      refine RunT.ot0 (x := .v (.bool false)) rfl rfl rfl rfl (.moveX rfl) ?_
                      refine RunT.xn rfl rfl rfl rfl rfl rfl ?_
                      refine RunT.xn rfl rfl rfl rfl rfl rfl ?_
                      refine RunT.ot0 (x := .v (.bool false)) rfl rfl rfl rfl (.pickF rfl rfl) ?_
                      refine RunT.ot0 (x := .v (.bool false)) rfl rfl rfl rfl (.moveX rfl) ?_
                      refine RunT.xn rfl rfl rfl rfl rfl rfl ?_
                      refine RunT.xn rfl rfl rfl rfl rfl rfl ?_
                      refine RunT.ot0 (x := .v (.bool false)) rfl rfl rfl rfl (.pickF rfl rfl) ?_
                      refine RunT.ot0 (x := .v (.bool false)) rfl rfl rfl rfl (.moveX rfl) ?_
                      refine RunT.xn rfl rfl rfl rfl rfl rfl ?_
                      refine RunT.xn rfl rfl rfl rfl rfl rfl ?_
                      refine RunT.xn rfl rfl rfl rfl rfl rfl ?_
                      refine RunT.ot0 (x := .v (.bool false)) rfl rfl rfl rfl (.pickF rfl rfl) ?_
                      refine RunT.ot0 (x := .v (.bool false)) rfl rfl rfl rfl (.moveX rfl) ?_
                      refine RunT.xn rfl rfl rfl rfl rfl rfl ?_
                      refine RunT.xn rfl rfl rfl rfl rfl rfl ?_
                      refine RunT.xn rfl rfl rfl rfl rfl rfl ?_
                      refine RunT.ot0 (x := .v (.bool false)) rfl rfl rfl rfl (.pickF rfl rfl) ?_
                      refine RunT.ot0 (x := .v (.bool false)) rfl rfl rfl rfl (.moveX rfl) ?_
                      refine RunT.xn rfl rfl rfl rfl rfl rfl ?_
                      refine RunT.xn rfl rfl rfl rfl rfl rfl ?_
                      refine RunT.xn rfl rfl rfl rfl rfl rfl ?_
                      refine RunT.xn rfl rfl rfl rfl rfl rfl ?_
                      refine RunT.ot0 (x := .v (.bool false)) rfl rfl rfl rfl (.pickF rfl rfl) ?_
                      refine RunT.ot0 (x := .v (.bool false)) rfl rfl rfl rfl (.assignX rfl) ?_
                      refine RunT.nil ?_
                      obtain rfl := si H
                      refine T.sub (sub_to (st' := ⟨[(0, .v (.bool false))], [], 8, []⟩) [] (by decide) rfl rfl (⟨⟨_, rfl, .one .v⟩, trivial⟩) (trivial)) ?_
                      refine T.ret ?_
                      exact RetOk.same [.v (.bool false)] ⟨rfl, trivial⟩ rfl rfl rfl
                  · replace H := cf H g29
                    refine RunT.xn rfl rfl rfl (bo g29) rfl rfl ?_
                    refine RunT.xn rfl rfl rfl (bo g29) rfl rfl ?_
                    refine RunT.xn rfl rfl rfl (bo g29) rfl rfl ?_
                    refine RunT.ot0 (x := .v (.bool false)) rfl rfl rfl rfl (.pickF (bo g29) rfl) ?_
                    refine RunT.ot0 (x := .v (.bool false)) rfl rfl rfl rfl (.moveX rfl) ?_
                    refine RunT.xn rfl rfl rfl rfl rfl rfl ?_
                    refine RunT.xn rfl rfl rfl rfl rfl rfl ?_
                    refine RunT.ot0 (x := .v (.bool false)) rfl rfl rfl rfl (.pickF rfl rfl) ?_
                    refine RunT.ot0 (x := .v (.bool false)) rfl rfl rfl rfl (.moveX rfl) ?_
                    refine RunT.xn rfl rfl rfl rfl rfl rfl ?_
                    refine RunT.xn rfl rfl rfl rfl rfl rfl ?_
                    refine RunT.ot0 (x := .v (.bool false)) rfl rfl rfl rfl (.pickF rfl rfl) ?_
                    refine RunT.ot0 (x := .v (.bool false)) rfl rfl rfl rfl (.moveX rfl) ?_
                    refine RunT.xn rfl rfl rfl rfl rfl rfl ?_
                    refine RunT.xn rfl rfl rfl rfl rfl rfl ?_
                    refine RunT.ot0 (x := .v (.bool false)) rfl rfl rfl rfl (.pickF rfl rfl) ?_
                    refine RunT.ot0 (x := .v (.bool false)) rfl rfl rfl rfl (.moveX rfl) ?_
                    refine RunT.xn rfl rfl rfl rfl rfl rfl ?_
                    refine RunT.xn rfl rfl rfl rfl rfl rfl ?_
                    refine RunT.ot0 (x := .v (.bool false)) rfl rfl rfl rfl (.pickF rfl rfl) ?_
                    refine RunT.ot0 (x := .v (.bool false)) rfl rfl rfl rfl (.moveX rfl) ?_
                    refine RunT.xn rfl rfl rfl rfl rfl rfl ?_
                    refine RunT.xn rfl rfl rfl rfl rfl rfl ?_
                    refine RunT.xn rfl rfl rfl rfl rfl rfl ?_
                    refine RunT.ot0 (x := .v (.bool false)) rfl rfl rfl rfl (.pickF rfl rfl) ?_
                    refine RunT.ot0 (x := .v (.bool false)) rfl rfl rfl rfl (.moveX rfl) ?_
                    refine RunT.xn rfl rfl rfl rfl rfl rfl ?_
                    refine RunT.xn rfl rfl rfl rfl rfl rfl ?_
                    refine RunT.xn rfl rfl rfl rfl rfl rfl ?_
                    refine RunT.ot0 (x := .v (.bool false)) rfl rfl rfl rfl (.pickF rfl rfl) ?_
                    refine RunT.ot0 (x := .v (.bool false)) rfl rfl rfl rfl (.moveX rfl) ?_
                    refine RunT.xn rfl rfl rfl rfl rfl rfl ?_
                    refine RunT.xn rfl rfl rfl rfl rfl rfl ?_
                    refine RunT.xn rfl rfl rfl rfl rfl rfl ?_
                    refine RunT.xn rfl rfl rfl rfl rfl rfl ?_
                    refine RunT.ot0 (x := .v (.bool false)) rfl rfl rfl rfl (.pickF rfl rfl) ?_
                    refine RunT.ot0 (x := .v (.bool false)) rfl rfl rfl rfl (.assignX rfl) ?_
                    refine RunT.nil ?_
                    obtain rfl := si H
                    refine T.sub (sub_to (st' := ⟨[(0, .v (.bool false))], [], 8, []⟩) [] (by decide) rfl rfl (⟨⟨_, rfl, .one .v⟩, trivial⟩) (trivial)) ?_
                    refine T.ret ?_
                    exact RetOk.same [.v (.bool false)] ⟨rfl, trivial⟩ rfl rfl rfl
                · replace H := cf H g28
                  refine RunT.xn rfl rfl rfl (bo g28) rfl rfl ?_
                  refine RunT.xn rfl rfl rfl (bo g28) rfl rfl ?_
                  refine RunT.ot0 (x := .v (.bool false)) rfl rfl rfl rfl (.pickF (bo g28) rfl) ?_
                  refine RunT.ot0 (x := .v (.bool false)) rfl rfl rfl rfl (.moveX rfl) ?_
                  refine RunT.xn rfl rfl rfl rfl rfl rfl ?_
                  refine RunT.xn rfl rfl rfl rfl rfl rfl ?_
                  refine RunT.xn rfl rfl rfl rfl rfl rfl ?_
                  refine RunT.ot0 (x := .v (.bool false)) rfl rfl rfl rfl (.pickF rfl rfl) ?_
                  refine RunT.ot0 (x := .v (.bool false)) rfl rfl rfl rfl (.moveX rfl) ?_
                  refine RunT.xn rfl rfl rfl rfl rfl rfl ?_
                  refine RunT.xn rfl rfl rfl rfl rfl rfl ?_
                  refine RunT.ot0 (x := .v (.bool false)) rfl rfl rfl rfl (.pickF rfl rfl) ?_
                  refine RunT.ot0 (x := .v (.bool false)) rfl rfl rfl rfl (.moveX rfl) ?_
                  refine RunT.xn rfl rfl rfl rfl rfl rfl ?_
                  refine RunT.xn rfl rfl rfl rfl rfl rfl ?_
                  refine RunT.ot0 (x := .v (.bool false)) rfl rfl rfl rfl (.pickF rfl rfl) ?_
                  refine RunT.ot0 (x := .v (.bool false)) rfl rfl rfl rfl (.moveX rfl) ?_
                  refine RunT.xn rfl rfl rfl rfl rfl rfl ?_
                  refine RunT.xn rfl rfl rfl rfl rfl rfl ?_
                  refine RunT.ot0 (x := .v (.bool false)) rfl rfl rfl rfl (.pickF rfl rfl) ?_
                  refine RunT.ot0 (x := .v (.bool false)) rfl rfl rfl rfl (.moveX rfl) ?_
                  refine RunT.xn rfl rfl rfl rfl rfl rfl ?_
                  refine RunT.xn rfl rfl rfl rfl rfl rfl ?_
                  refine RunT.ot0 (x := .v (.bool false)) rfl rfl rfl rfl (.pickF rfl rfl) ?_
                  refine RunT.ot0 (x := .v (.bool false)) rfl rfl rfl rfl (.moveX rfl) ?_
                  refine RunT.xn rfl rfl rfl rfl rfl rfl ?_
                  refine RunT.xn rfl rfl rfl rfl rfl rfl ?_
                  refine RunT.xn rfl rfl rfl rfl rfl rfl ?_
                  refine RunT.ot0 (x := .v (.bool false)) rfl rfl rfl rfl (.pickF rfl rfl) ?_
                  refine RunT.ot0 (x := .v (.bool false)) rfl rfl rfl rfl (.moveX rfl) ?_
                  refine RunT.xn rfl rfl rfl rfl rfl rfl ?_
                  refine RunT.xn rfl rfl rfl rfl rfl rfl ?_
                  refine RunT.xn rfl rfl rfl rfl rfl rfl ?_
                  refine RunT.ot0 (x := .v (.bool false)) rfl rfl rfl rfl (.pickF rfl rfl) ?_
                  refine RunT.ot0 (x := .v (.bool false)) rfl rfl rfl rfl (.moveX rfl) ?_
                  refine RunT.xn rfl rfl rfl rfl rfl rfl ?_
                  refine RunT.xn rfl rfl rfl rfl rfl rfl ?_
                  refine RunT.xn rfl rfl rfl rfl rfl rfl ?_
                  refine RunT.xn rfl rfl rfl rfl rfl rfl ?_
                  refine RunT.ot0 (x := .v (.bool false)) rfl rfl rfl rfl (.pickF rfl rfl) ?_
                  refine RunT.ot0 (x := .v (.bool false)) rfl rfl rfl rfl (.assignX rfl) ?_
                  refine RunT.nil ?_
                  obtain rfl := si H
                  refine T.sub (sub_to (st' := ⟨[(0, .v (.bool false))], [], 8, []⟩) [] (by decide) rfl rfl (⟨⟨_, rfl, .one .v⟩, trivial⟩) (trivial)) ?_
                  refine T.ret ?_
                  exact RetOk.same [.v (.bool false)] ⟨rfl, trivial⟩ rfl rfl rfl
              · replace H := cf H g27
                refine RunT.xn rfl rfl rfl (bo g27) rfl rfl ?_
                refine RunT.xn rfl rfl rfl (bo g27) rfl rfl ?_
                refine RunT.xn rfl rfl rfl (bo g27) rfl rfl ?_
                refine RunT.ot0 (x := .v (.bool false)) rfl rfl rfl rfl (.pickF (bo g27) rfl) ?_
                refine RunT.ot0 (x := .v (.bool false)) rfl rfl rfl rfl (.moveX rfl) ?_
                refine RunT.xn rfl rfl rfl rfl rfl rfl ?_
                refine RunT.xn rfl rfl rfl rfl rfl rfl ?_
                refine RunT.ot0 (x := .v (.bool false)) rfl rfl rfl rfl (.pickF rfl rfl) ?_
                refine RunT.ot0 (x := .v (.bool false)) rfl rfl rfl rfl (.moveX rfl) ?_
                refine RunT.xn rfl rfl rfl rfl rfl rfl ?_
                refine RunT.xn rfl rfl rfl rfl rfl rfl ?_
                refine RunT.xn rfl rfl rfl rfl rfl rfl ?_
                refine RunT.ot0 (x := .v (.bool false)) rfl rfl rfl rfl (.pickF rfl rfl) ?_
                refine RunT.ot0 (x := .v (.bool false)) rfl rfl rfl rfl (.moveX rfl) ?_
                refine RunT.xn rfl rfl rfl rfl rfl rfl ?_
                refine RunT.xn rfl rfl rfl rfl rfl rfl ?_
                refine RunT.ot0 (x := .v (.bool false)) rfl rfl rfl rfl (.pickF rfl rfl) ?_
                refine RunT.ot0 (x := .v (.bool false)) rfl rfl rfl rfl (.moveX rfl) ?_
                refine RunT.xn rfl rfl rfl rfl rfl rfl ?_
                refine RunT.xn rfl rfl rfl rfl rfl rfl ?_
                refine RunT.ot0 (x := .v (.bool false)) rfl rfl rfl rfl (.pickF rfl rfl) ?_
                refine RunT.ot0 (x := .v (.bool false)) rfl rfl rfl rfl (.moveX rfl) ?_
                refine RunT.xn rfl rfl rfl rfl rfl rfl ?_
                refine RunT.xn rfl rfl rfl rfl rfl rfl ?_
                refine RunT.ot0 (x := .v (.bool false)) rfl rfl rfl rfl (.pickF rfl rfl) ?_
                refine RunT.ot0 (x := .v (.bool false)) rfl rfl rfl rfl (.moveX rfl) ?_
                refine RunT.xn rfl rfl rfl rfl rfl rfl ?_
                refine RunT.xn rfl rfl rfl rfl rfl rfl ?_
                refine RunT.ot0 (x := .v (.bool false)) rfl rfl rfl rfl (.pickF rfl rfl) ?_
                refine RunT.ot0 (x := .v (.bool false)) rfl rfl rfl rfl (.moveX rfl) ?_
                refine RunT.xn rfl rfl rfl rfl rfl rfl ?_
                refine RunT.xn rfl rfl rfl rfl rfl rfl ?_
                refine RunT.xn rfl rfl rfl rfl rfl rfl ?_
                refine RunT.ot0 (x := .v (.bool false)) rfl rfl rfl rfl (.pickF rfl rfl) ?_
                refine RunT.ot0 (x := .v (.bool false)) rfl rfl rfl rfl (.moveX rfl) ?_
                refine RunT.xn rfl rfl rfl rfl rfl rfl ?_
                refine RunT.xn rfl rfl rfl rfl rfl rfl ?_
                refine RunT.xn rfl rfl rfl rfl rfl rfl ?_
                refine RunT.ot0 (x := .v (.bool false)) rfl rfl rfl rfl (.pickF rfl rfl) ?_
                refine RunT.ot0 (x := .v (.bool false)) rfl rfl rfl rfl (.moveX rfl) ?_
                refine RunT.xn rfl rfl rfl rfl rfl rfl ?_
                refine RunT.xn rfl rfl rfl rfl rfl rfl ?_
                refine RunT.xn rfl rfl rfl rfl rfl rfl ?_
                refine RunT.xn rfl rfl rfl rfl rfl rfl ?_
                refine RunT.ot0 (x := .v (.bool false)) rfl rfl rfl rfl (.pickF rfl rfl) ?_
                refine RunT.ot0 (x := .v (.bool false)) rfl rfl rfl rfl (.assignX rfl) ?_
                refine RunT.nil ?_
                obtain rfl := si H
                refine T.sub (sub_to (st' := ⟨[(0, .v (.bool false))], [], 8, []⟩) [] (by decide) rfl rfl (⟨⟨_, rfl, .one .v⟩, trivial⟩) (trivial)) ?_
                refine T.ret ?_
                exact RetOk.same [.v (.bool false)] ⟨rfl, trivial⟩ rfl rfl rfl
            · replace H := cf H g26
              refine RunT.xn rfl rfl rfl (bo g26) rfl rfl ?_
              refine RunT.xn rfl rfl rfl (bo g26) rfl rfl ?_
              refine RunT.ot0 (x := .v (.bool false)) rfl rfl rfl rfl (.pickF (bo g26) rfl) ?_
              refine RunT.ot0 (x := .v (.bool false)) rfl rfl rfl rfl (.moveX rfl) ?_
              refine RunT.xn rfl rfl rfl rfl rfl rfl ?_
              refine RunT.xn rfl rfl rfl rfl rfl rfl ?_
              refine RunT.xn rfl rfl rfl rfl rfl rfl ?_
              refine RunT.ot0 (x := .v (.bool false)) rfl rfl rfl rfl (.pickF rfl rfl) ?_
              refine RunT.ot0 (x := .v (.bool false)) rfl rfl rfl rfl (.moveX rfl) ?_
              refine RunT.xn rfl rfl rfl rfl rfl rfl ?_
              refine RunT.xn rfl rfl rfl rfl rfl rfl ?_
              refine RunT.ot0 (x := .v (.bool false)) rfl rfl rfl rfl (.pickF rfl rfl) ?_
              refine RunT.ot0 (x := .v (.bool false)) rfl rfl rfl rfl (.moveX rfl) ?_
              refine RunT.xn rfl rfl rfl rfl rfl rfl ?_
              refine RunT.xn rfl rfl rfl rfl rfl rfl ?_
              refine RunT.xn rfl rfl rfl rfl rfl rfl ?_
              refine RunT.ot0 (x := .v (.bool false)) rfl rfl rfl rfl (.pickF rfl rfl) ?_
              refine RunT.ot0 (x := .v (.bool false)) rfl rfl rfl rfl (.moveX rfl) ?_
              refine RunT.xn rfl rfl rfl rfl rfl rfl ?_
              refine RunT.xn rfl rfl rfl rfl rfl rfl ?_
              refine RunT.ot0 (x := .v (.bool false)) rfl rfl rfl rfl (.pickF rfl rfl) ?_
              refine RunT.ot0 (x := .v (.bool false)) rfl rfl rfl rfl (.moveX rfl) ?_
              refine RunT.xn rfl rfl rfl rfl rfl rfl ?_
              refine RunT.xn rfl rfl rfl rfl rfl rfl ?_
              refine RunT.ot0 (x := .v (.bool false)) rfl rfl rfl rfl (.pickF rfl rfl) ?_
              refine RunT.ot0 (x := .v (.bool false)) rfl rfl rfl rfl (.moveX rfl) ?_
              refine RunT.xn rfl rfl rfl rfl rfl rfl ?_
              refine RunT.xn rfl rfl rfl rfl rfl rfl ?_
              refine RunT.ot0 (x := .v (.bool false)) rfl rfl rfl rfl (.pickF rfl rfl) ?_
              refine RunT.ot0 (x := .v (.bool false)) rfl rfl rfl rfl (.moveX rfl) ?_
              refine RunT.xn rfl rfl rfl rfl rfl rfl ?_
              refine RunT.xn rfl rfl rfl rfl rfl rfl ?_
              refine RunT.ot0 (x := .v (.bool false)) rfl rfl rfl rfl (.pickF rfl rfl) ?_
              refine RunT.ot0 (x := .v (.bool false)) rfl rfl rfl rfl (.moveX rfl) ?_
              refine RunT.xn rfl rfl rfl rfl rfl rfl ?_
              refine RunT.xn rfl rfl rfl rfl rfl rfl ?_
              refine RunT.xn rfl rfl rfl rfl rfl rfl ?_
              refine RunT.ot0 (x := .v (.bool false)) rfl rfl rfl rfl (.pickF rfl rfl) ?_
              refine RunT.ot0 (x := .v (.bool false)) rfl rfl rfl rfl (.moveX rfl) ?_
              refine RunT.xn rfl rfl rfl rfl rfl rfl ?_
              refine RunT.xn rfl rfl rfl rfl rfl rfl ?_
              refine RunT.xn rfl rfl rfl rfl rfl rfl ?_
              refine RunT.ot0 (x := .v (.bool false)) rfl rfl rfl rfl (.pickF rfl rfl) ?_
              refine RunT.ot0 (x := .v (.bool false)) rfl rfl rfl rfl (.moveX rfl) ?_
              refine RunT.xn rfl rfl rfl rfl rfl rfl ?_
              refine RunT.xn rfl rfl rfl rfl rfl rfl ?_
              refine RunT.xn rfl rfl rfl rfl rfl rfl ?_
              refine RunT.xn rfl rfl rfl rfl rfl rfl ?_
              refine RunT.ot0 (x := .v (.bool false)) rfl rfl rfl rfl (.pickF rfl rfl) ?_
              refine RunT.ot0 (x := .v (.bool false)) rfl rfl rfl rfl (.assignX rfl) ?_
              refine RunT.nil ?_
              obtain rfl := si H
              refine T.sub (sub_to (st' := ⟨[(0, .v (.bool false))], [], 8, []⟩) [] (by decide) rfl rfl (⟨⟨_, rfl, .one .v⟩, trivial⟩) (trivial)) ?_
              refine T.ret ?_
              exact RetOk.same [.v (.bool false)] ⟨rfl, trivial⟩ rfl rfl rfl
          · replace H := cf H g23
            refine RunT.xn rfl rfl rfl (bo g23) rfl rfl ?_
            refine RunT.xn rfl rfl rfl (bo g23) rfl rfl ?_
            refine RunT.xn rfl rfl rfl (bo g23) rfl rfl ?_
            refine RunT.xn rfl rfl rfl (bo g23) rfl rfl ?_
            refine RunT.ot0 (x := .v (.bool false)) rfl rfl rfl rfl (.pickF (bo g23) rfl) ?_
            refine RunT.ot0 (x := .v (.bool false)) rfl rfl rfl rfl (.moveX rfl) ?_
            refine RunT.xn rfl rfl rfl rfl rfl rfl ?_
            refine RunT.xn rfl rfl rfl rfl rfl rfl ?_
            refine RunT.ot0 (x := .v (.bool false)) rfl rfl rfl rfl (.pickF rfl rfl) ?_
            refine RunT.ot0 (x := .v (.bool false)) rfl rfl rfl rfl (.moveX rfl) ?_
            refine RunT.xn rfl rfl rfl rfl rfl rfl ?_
            refine RunT.xn rfl rfl rfl rfl rfl rfl ?_
            refine RunT.xn rfl rfl rfl rfl rfl rfl ?_
            refine RunT.ot0 (x := .v (.bool false)) rfl rfl rfl rfl (.pickF rfl rfl) ?_
            refine RunT.ot0 (x := .v (.bool false)) rfl rfl rfl rfl (.moveX rfl) ?_
            refine RunT.xn rfl rfl rfl rfl rfl rfl ?_
            refine RunT.xn rfl rfl rfl rfl rfl rfl ?_
            refine RunT.ot0 (x := .v (.bool false)) rfl rfl rfl rfl (.pickF rfl rfl) ?_
            refine RunT.ot0 (x := .v (.bool false)) rfl rfl rfl rfl (.moveX rfl) ?_
            refine RunT.xn rfl rfl rfl rfl rfl rfl ?_
            refine RunT.xn rfl rfl rfl rfl rfl rfl ?_
            refine RunT.xn rfl rfl rfl rfl rfl rfl ?_
            refine RunT.ot0 (x := .v (.bool false)) rfl rfl rfl rfl (.pickF rfl rfl) ?_
            refine RunT.ot0 (x := .v (.bool false)) rfl rfl rfl rfl (.moveX rfl) ?_
            refine RunT.xn rfl rfl rfl rfl rfl rfl ?_
            refine RunT.xn rfl rfl rfl rfl rfl rfl ?_
            refine RunT.ot0 (x := .v (.bool false)) rfl rfl rfl rfl (.pickF rfl rfl) ?_
            refine RunT.ot0 (x := .v (.bool false)) rfl rfl rfl rfl (.moveX rfl) ?_
            refine RunT.xn rfl rfl rfl rfl rfl rfl ?_
            refine RunT.xn rfl rfl rfl rfl rfl rfl ?_
            refine RunT.ot0 (x := .v (.bool false)) rfl rfl rfl rfl (.pickF rfl rfl) ?_
            refine RunT.ot0 (x := .v (.bool false)) rfl rfl rfl rfl (.moveX rfl) ?_
            refine RunT.xn rfl rfl rfl rfl rfl rfl ?_
            refine RunT.xn rfl rfl rfl rfl rfl rfl ?_
            refine RunT.ot0 (x := .v (.bool false)) rfl rfl rfl rfl (.pickF rfl rfl) ?_
            refine RunT.ot0 (x := .v (.bool false)) rfl rfl rfl rfl (.moveX rfl) ?_
            refine RunT.xn rfl rfl rfl rfl rfl rfl ?_
            refine RunT.xn rfl rfl rfl rfl rfl rfl ?_
            refine RunT.ot0 (x := .v (.bool false)) rfl rfl rfl rfl (.pickF rfl rfl) ?_
            refine RunT.ot0 (x := .v (.bool false)) rfl rfl rfl rfl (.moveX rfl) ?_
            refine RunT.xn rfl rfl rfl rfl rfl rfl ?_
            refine RunT.xn rfl rfl rfl rfl rfl rfl ?_
            refine RunT.xn rfl rfl rfl rfl rfl rfl ?_
            refine RunT.ot0 (x := .v (.bool false)) rfl rfl rfl rfl (.pickF rfl rfl) ?_
            refine RunT.ot0 (x := .v (.bool false)) rfl rfl rfl rfl (.moveX rfl) ?_
            refine RunT.xn rfl rfl rfl rfl rfl rfl ?_
            refine RunT.xn rfl rfl rfl rfl rfl rfl ?_
            refine RunT.xn rfl rfl rfl rfl rfl rfl ?_
            refine RunT.ot0 (x := .v (.bool false)) rfl rfl rfl rfl (.pickF rfl rfl) ?_
            refine RunT.ot0 (x := .v (.bool false)) rfl rfl rfl rfl (.moveX rfl) ?_
            refine RunT.xn rfl rfl rfl rfl rfl rfl ?_
            refine RunT.xn rfl rfl rfl rfl rfl rfl ?_
            refine RunT.xn rfl rfl rfl rfl rfl rfl ?_
            refine RunT.xn rfl rfl rfl rfl rfl rfl ?_
            refine RunT.ot0 (x := .v (.bool false)) rfl rfl rfl rfl (.pickF rfl rfl) ?_
            refine RunT.ot0 (x := .v (.bool false)) rfl rfl rfl rfl (.assignX rfl) ?_
            refine RunT.nil ?_
            obtain rfl := si H
            refine T.sub (sub_to (st' := ⟨[(0, .v (.bool false))], [], 8, []⟩) [] (by decide) rfl rfl (⟨⟨_, rfl, .one .v⟩, trivial⟩) (trivial)) ?_
            refine T.ret ?_
            exact RetOk.same [.v (.bool false)] ⟨rfl, trivial⟩ rfl rfl rfl
        · replace H := cf H g20
          refine RunT.xn rfl rfl rfl (bo g20) rfl rfl ?_
          refine RunT.xn rfl rfl rfl (bo g20) rfl rfl ?_
          refine RunT.xn rfl rfl rfl (bo g20) rfl rfl ?_
          refine RunT.xn rfl rfl rfl (bo g20) rfl rfl ?_
          refine RunT.ot0 (x := .v (.bool false)) rfl rfl rfl rfl (.pickF (bo g20) rfl) ?_
          refine RunT.ot0 (x := .v (.bool false)) rfl rfl rfl rfl (.moveX rfl) ?_
          refine RunT.xn rfl rfl rfl rfl rfl rfl ?_
          refine RunT.xn rfl rfl rfl rfl rfl rfl ?_
          refine RunT.xn rfl rfl rfl rfl rfl rfl ?_
          refine RunT.xn rfl rfl rfl rfl rfl rfl ?_
          refine RunT.ot0 (x := .v (.bool false)) rfl rfl rfl rfl (.pickF rfl rfl) ?_
          refine RunT.ot0 (x := .v (.bool false)) rfl rfl rfl rfl (.moveX rfl) ?_
          refine RunT.xn rfl rfl rfl rfl rfl rfl ?_
          refine RunT.xn rfl rfl rfl rfl rfl rfl ?_
          refine RunT.ot0 (x := .v (.bool false)) rfl rfl rfl rfl (.pickF rfl rfl) ?_
          refine RunT.ot0 (x := .v (.bool false)) rfl rfl rfl rfl (.moveX rfl) ?_
          refine RunT.xn rfl rfl rfl rfl rfl rfl ?_
          refine RunT.xn rfl rfl rfl rfl rfl rfl ?_
          refine RunT.xn rfl rfl rfl rfl rfl rfl ?_
          refine RunT.ot0 (x := .v (.bool false)) rfl rfl rfl rfl (.pickF rfl rfl) ?_
          refine RunT.ot0 (x := .v (.bool false)) rfl rfl rfl rfl (.moveX rfl) ?_
          refine RunT.xn rfl rfl rfl rfl rfl rfl ?_
          refine RunT.xn rfl rfl rfl rfl rfl rfl ?_
          refine RunT.ot0 (x := .v (.bool false)) rfl rfl rfl rfl (.pickF rfl rfl) ?_
          refine RunT.ot0 (x := .v (.bool false)) rfl rfl rfl rfl (.moveX rfl) ?_
          refine RunT.xn rfl rfl rfl rfl rfl rfl ?_
          refine RunT.xn rfl rfl rfl rfl rfl rfl ?_
          refine RunT.xn rfl rfl rfl rfl rfl rfl ?_
          refine RunT.ot0 (x := .v (.bool false)) rfl rfl rfl rfl (.pickF rfl rfl) ?_
          refine RunT.ot0 (x := .v (.bool false)) rfl rfl rfl rfl (.moveX rfl) ?_
          refine RunT.xn rfl rfl rfl rfl rfl rfl ?_
          refine RunT.xn rfl rfl rfl rfl rfl rfl ?_
          refine RunT.ot0 (x := .v (.bool false)) rfl rfl rfl rfl (.pickF rfl rfl) ?_
          refine RunT.ot0 (x := .v (.bool false)) rfl rfl rfl rfl (.moveX rfl) ?_
          refine RunT.xn rfl rfl rfl rfl rfl rfl ?_
          refine RunT.xn rfl rfl rfl rfl rfl rfl ?_
          refine RunT.ot0 (x := .v (.bool false)) rfl rfl rfl rfl (.pickF rfl rfl) ?_
          refine RunT.ot0 (x := .v (.bool false)) rfl rfl rfl rfl (.moveX rfl) ?_
          refine RunT.xn rfl rfl rfl rfl rfl rfl ?_
          refine RunT.xn rfl rfl rfl rfl rfl rfl ?_
          refine RunT.ot0 (x := .v (.bool false)) rfl rfl rfl rfl (.pickF rfl rfl) ?_
          refine RunT.ot0 (x := .v (.bool false)) rfl rfl rfl rfl (.moveX rfl) ?_
          refine RunT.xn rfl rfl rfl rfl rfl rfl ?_
          refine RunT.xn rfl rfl rfl rfl rfl rfl ?_
          refine RunT.ot0 (x := .v (.bool false)) rfl rfl rfl rfl (.pickF rfl rfl) ?_
          refine RunT.ot0 (x := .v (.bool false)) rfl rfl rfl rfl (.moveX rfl) ?_
          refine RunT.xn rfl rfl rfl rfl rfl rfl ?_
          refine RunT.xn rfl rfl rfl rfl rfl rfl ?_
          refine RunT.xn rfl rfl rfl rfl rfl rfl ?_
          refine RunT.ot0 (x := .v (.bool false)) rfl rfl rfl rfl (.pickF rfl rfl) ?_
          refine RunT.ot0 (x := .v (.bool false)) rfl rfl rfl rfl (.moveX rfl) ?_
          refine RunT.xn rfl rfl rfl rfl rfl rfl ?_
          refine RunT.xn rfl rfl rfl rfl rfl rfl ?_
          refine RunT.xn rfl rfl rfl rfl rfl rfl ?_
          refine RunT.ot0 (x := .v (.bool false)) rfl rfl rfl rfl (.pickF rfl rfl) ?_
          refine RunT.ot0 (x := .v (.bool false)) rfl rfl rfl rfl (.moveX rfl) ?_
          refine RunT.xn rfl rfl rfl rfl rfl rfl ?_
          refine RunT.xn rfl rfl rfl rfl rfl rfl ?_
          refine RunT.xn rfl rfl rfl rfl rfl rfl ?_
          refine RunT.xn rfl rfl rfl rfl rfl rfl ?_
          refine RunT.ot0 (x := .v (.bool false)) rfl rfl rfl rfl (.pickF rfl rfl) ?_
          refine RunT.ot0 (x := .v (.bool false)) rfl rfl rfl rfl (.assignX rfl) ?_
          refine RunT.nil ?_
          obtain rfl := si H
          refine T.sub (sub_to (st' := ⟨[(0, .v (.bool false))], [], 8, []⟩) [] (by decide) rfl rfl (⟨⟨_, rfl, .one .v⟩, trivial⟩) (trivial)) ?_
          refine T.ret ?_
          exact RetOk.same [.v (.bool false)] ⟨rfl, trivial⟩ rfl rfl rfl
      · replace H := cf H g17
        refine RunT.xn rfl rfl rfl (bo g17) rfl rfl ?_
        refine RunT.xn rfl rfl rfl (bo g17) rfl rfl ?_
        refine RunT.xn rfl rfl rfl (bo g17) rfl rfl ?_
        refine RunT.xn rfl rfl rfl (bo g17) rfl rfl ?_
        refine RunT.ot0 (x := .v (.bool false)) rfl rfl rfl rfl (.pickF (bo g17) rfl) ?_
        refine RunT.ot0 (x := .v (.bool false)) rfl rfl rfl rfl (.moveX rfl) ?_
        refine RunT.xn rfl rfl rfl rfl rfl rfl ?_
        refine RunT.xn rfl rfl rfl rfl rfl rfl ?_
        refine RunT.xn rfl rfl rfl rfl rfl rfl ?_
        refine RunT.xn rfl rfl rfl rfl rfl rfl ?_
        refine RunT.ot0 (x := .v (.bool false)) rfl rfl rfl rfl (.pickF rfl rfl) ?_
        refine RunT.ot0 (x := .v (.bool false)) rfl rfl rfl rfl (.moveX rfl) ?_
        refine RunT.xn rfl rfl rfl rfl rfl rfl ?_
        refine RunT.xn rfl rfl rfl rfl rfl rfl ?_
        refine RunT.xn rfl rfl rfl rfl rfl rfl ?_
        refine RunT.xn rfl rfl rfl rfl rfl rfl ?_
        refine RunT.ot0 (x := .v (.bool false)) rfl rfl rfl rfl (.pickF rfl rfl) ?_
        refine RunT.ot0 (x := .v (.bool false)) rfl rfl rfl rfl (.moveX rfl) ?_
        refine RunT.xn rfl rfl rfl rfl rfl rfl ?_
        refine RunT.xn rfl rfl rfl rfl rfl rfl ?_
        refine RunT.ot0 (x := .v (.bool false)) rfl rfl rfl rfl (.pickF rfl rfl) ?_
        refine RunT.ot0 (x := .v (.bool false)) rfl rfl rfl rfl (.moveX rfl) ?_
        refine RunT.xn rfl rfl rfl rfl rfl rfl ?_
        refine RunT.xn rfl rfl rfl rfl rfl rfl ?_
        refine RunT.xn rfl rfl rfl rfl rfl rfl ?_
        refine RunT.ot0 (x := .v (.bool false)) rfl rfl rfl rfl (.pickF rfl rfl) ?_
        refine RunT.ot0 (x := .v (.bool false)) rfl rfl rfl rfl (.moveX rfl) ?_
        refine RunT.xn rfl rfl rfl rfl rfl rfl ?_
        refine RunT.xn rfl rfl rfl rfl rfl rfl ?_
        refine RunT.ot0 (x := .v (.bool false)) rfl rfl rfl rfl (.pickF rfl rfl) ?_
        refine RunT.ot0 (x := .v (.bool false)) rfl rfl rfl rfl (.moveX rfl) ?_
        refine RunT.xn rfl rfl rfl rfl rfl rfl ?_
        refine RunT.xn rfl rfl rfl rfl rfl rfl ?_
        refine RunT.xn rfl rfl rfl rfl rfl rfl ?_
        refine RunT.ot0 (x := .v (.bool false)) rfl rfl rfl rfl (.pickF rfl rfl) ?_
        refine RunT.ot0 (x := .v (.bool false)) rfl rfl rfl rfl (.moveX rfl) ?_
        refine RunT.xn rfl rfl rfl rfl rfl rfl ?_
        refine RunT.xn rfl rfl rfl rfl rfl rfl ?_
        refine RunT.ot0 (x := .v (.bool false)) rfl rfl rfl rfl (.pickF rfl rfl) ?_
        refine RunT.ot0 (x := .v (.bool false)) rfl rfl rfl rfl (.moveX rfl) ?_
        refine RunT.xn rfl rfl rfl rfl rfl rfl ?_
        refine RunT.xn rfl rfl rfl rfl rfl rfl ?_
        refine RunT.ot0 (x := .v (.bool false)) rfl rfl rfl rfl (.pickF rfl rfl) ?_
        refine RunT.ot0 (x := .v (.bool false)) rfl rfl rfl rfl (.moveX rfl) ?_
        refine RunT.xn rfl rfl rfl rfl rfl rfl ?_
        refine RunT.xn rfl rfl rfl rfl rfl rfl ?_
        refine RunT.ot0 (x := .v (.bool false)) rfl rfl rfl rfl (.pickF rfl rfl) ?_
        refine RunT.ot0 (x := .v (.bool false)) rfl rfl rfl rfl (.moveX rfl) ?_
        refine RunT.xn rfl rfl rfl rfl rfl rfl ?_
        refine RunT.xn rfl rfl rfl rfl rfl rfl ?_
        refine RunT.ot0 (x := .v (.bool false)) rfl rfl rfl rfl (.pickF rfl rfl) ?_
        refine RunT.ot0 (x := .v (.bool false)) rfl rfl rfl rfl (.moveX rfl) ?_
        refine RunT.xn rfl rfl rfl rfl rfl rfl ?_
        refine RunT.xn rfl rfl rfl rfl rfl rfl ?_
        refine RunT.xn rfl rfl rfl rfl rfl rfl ?_
        refine RunT.ot0 (x := .v (.bool false)) rfl rfl rfl rfl (.pickF rfl rfl) ?_
        refine RunT.ot0 (x := .v (.bool false)) rfl rfl rfl rfl (.moveX rfl) ?_
        refine RunT.xn rfl rfl rfl rfl rfl rfl ?_
        refine RunT.xn rfl rfl rfl rfl rfl rfl ?_
        refine RunT.xn rfl rfl rfl rfl rfl rfl ?_
        refine RunT.ot0 (x := .v (.bool false)) rfl rfl rfl rfl (.pickF rfl rfl) ?_
        refine RunT.ot0 (x := .v (.bool false)) rfl rfl rfl rfl (.moveX rfl) ?_
        refine RunT.xn rfl rfl rfl rfl rfl rfl ?_
        refine RunT.xn rfl rfl rfl rfl rfl rfl ?_
        refine RunT.xn rfl rfl rfl rfl rfl rfl ?_
        refine RunT.xn rfl rfl rfl rfl rfl rfl ?_
        refine RunT.ot0 (x := .v (.bool false)) rfl rfl rfl rfl (.pickF rfl rfl) ?_
        refine RunT.ot0 (x := .v (.bool false)) rfl rfl rfl rfl (.assignX rfl) ?_
        refine RunT.nil ?_
        obtain rfl := si H
        refine T.sub (sub_to (st' := ⟨[(0, .v (.bool false))], [], 8, []⟩) [] (by decide) rfl rfl (⟨⟨_, rfl, .one .v⟩, trivial⟩) (trivial)) ?_
        refine T.ret ?_
        exact RetOk.same [.v (.bool false)] ⟨rfl, trivial⟩ rfl rfl rfl
    · replace H := cf H g14
      refine RunT.xn rfl rfl rfl (bo g14) rfl rfl ?_
      refine RunT.xn rfl rfl rfl (bo g14) rfl rfl ?_
      refine RunT.xn rfl rfl rfl (bo g14) rfl rfl ?_
      refine RunT.xn rfl rfl rfl (bo g14) rfl rfl ?_
      refine RunT.ot0 (x := .v (.bool false)) rfl rfl rfl rfl (.pickF (bo g14) rfl) ?_
      refine RunT.ot0 (x := .v (.bool false)) rfl rfl rfl rfl (.moveX rfl) ?_
      refine RunT.xn rfl rfl rfl rfl rfl rfl ?_
      refine RunT.xn rfl rfl rfl rfl rfl rfl ?_
      refine RunT.xn rfl rfl rfl rfl rfl rfl ?_
      refine RunT.xn rfl rfl rfl rfl rfl rfl ?_
      refine RunT.ot0 (x := .v (.bool false)) rfl rfl rfl rfl (.pickF rfl rfl) ?_
      refine RunT.ot0 (x := .v (.bool false)) rfl rfl rfl rfl (.moveX rfl) ?_
      refine RunT.xn rfl rfl rfl rfl rfl rfl ?_
      refine RunT.xn rfl rfl rfl rfl rfl rfl ?_
      refine RunT.xn rfl rfl rfl rfl rfl rfl ?_
      refine RunT.xn rfl rfl rfl rfl rfl rfl ?_
      refine RunT.ot0 (x := .v (.bool false)) rfl rfl rfl rfl (.pickF rfl rfl) ?_
      refine RunT.ot0 (x := .v (.bool false)) rfl rfl rfl rfl (.moveX rfl) ?_
      refine RunT.xn rfl rfl rfl rfl rfl rfl ?_
      refine RunT.xn rfl rfl rfl rfl rfl rfl ?_
      refine RunT.xn rfl rfl rfl rfl rfl rfl ?_
      refine RunT.xn rfl rfl rfl rfl rfl rfl ?_
      refine RunT.ot0 (x := .v (.bool false)) rfl rfl rfl rfl (.pickF rfl rfl) ?_
      refine RunT.ot0 (x := .v (.bool false)) rfl rfl rfl rfl (.moveX rfl) ?_
      refine RunT.xn rfl rfl rfl rfl rfl rfl ?_
      refine RunT.xn rfl rfl rfl rfl rfl rfl ?_
      refine RunT.ot0 (x := .v (.bool false)) rfl rfl rfl rfl (.pickF rfl rfl) ?_
      refine RunT.ot0 (x := .v (.bool false)) rfl rfl rfl rfl (.moveX rfl) ?_
      refine RunT.xn rfl rfl rfl rfl rfl rfl ?_
      refine RunT.xn rfl rfl rfl rfl rfl rfl ?_
      refine RunT.xn rfl rfl rfl rfl rfl rfl ?_
      refine RunT.ot0 (x := .v (.bool false)) rfl rfl rfl rfl (.pickF rfl rfl) ?_
      refine RunT.ot0 (x := .v (.bool false)) rfl rfl rfl rfl (.moveX rfl) ?_
      refine RunT.xn rfl rfl rfl rfl rfl rfl ?_
      refine RunT.xn rfl rfl rfl rfl rfl rfl ?_
      refine RunT.ot0 (x := .v (.bool false)) rfl rfl rfl rfl (.pickF rfl rfl) ?_
      refine RunT.ot0 (x := .v (.bool false)) rfl rfl rfl rfl (.moveX rfl) ?_
      refine RunT.xn rfl rfl rfl rfl rfl rfl ?_
      refine RunT.xn rfl rfl rfl rfl rfl rfl ?_
      refine RunT.xn rfl rfl rfl rfl rfl rfl ?_
      refine RunT.ot0 (x := .v (.bool false)) rfl rfl rfl rfl (.pickF rfl rfl) ?_
      refine RunT.ot0 (x := .v (.bool false)) rfl rfl rfl rfl (.moveX rfl) ?_
      refine RunT.xn rfl rfl rfl rfl rfl rfl ?_
      refine RunT.xn rfl rfl rfl rfl rfl rfl ?_
      refine RunT.ot0 (x := .v (.bool false)) rfl rfl rfl rfl (.pickF rfl rfl) ?_
      refine RunT.ot0 (x := .v (.bool false)) rfl rfl rfl rfl (.moveX rfl) ?_
      refine RunT.xn rfl rfl rfl rfl rfl rfl ?_
      refine RunT.xn rfl rfl rfl rfl rfl rfl ?_
      refine RunT.ot0 (x := .v (.bool false)) rfl rfl rfl rfl (.pickF rfl rfl) ?_
      refine RunT.ot0 (x := .v (.bool false)) rfl rfl rfl rfl (.moveX rfl) ?_
      refine RunT.xn rfl rfl rfl rfl rfl rfl ?_
      refine RunT.xn rfl rfl rfl rfl rfl rfl ?_
      refine RunT.ot0 (x := .v (.bool false)) rfl rfl rfl rfl (.pickF rfl rfl) ?_
      refine RunT.ot0 (x := .v (.bool false)) rfl rfl rfl rfl (.moveX rfl) ?_
      refine RunT.xn rfl rfl rfl rfl rfl rfl ?_
      refine RunT.xn rfl rfl rfl rfl rfl rfl ?_
      refine RunT.ot0 (x := .v (.bool false)) rfl rfl rfl rfl (.pickF rfl rfl) ?_
      refine RunT.ot0 (x := .v (.bool false)) rfl rfl rfl rfl (.moveX rfl) ?_
      refine RunT.xn rfl rfl rfl rfl rfl rfl ?_
      refine RunT.xn rfl rfl rfl rfl rfl rfl ?_
      refine RunT.xn rfl rfl rfl rfl rfl rfl ?_
      refine RunT.ot0 (x := .v (.bool false)) rfl rfl rfl rfl (.pickF rfl rfl) ?_
      refine RunT.ot0 (x := .v (.bool false)) rfl rfl rfl rfl (.moveX rfl) ?_
      refine RunT.xn rfl rfl rfl rfl rfl rfl ?_
      refine RunT.xn rfl rfl rfl rfl rfl rfl ?_
      refine RunT.xn rfl rfl rfl rfl rfl rfl ?_
      refine RunT.ot0 (x := .v (.bool false)) rfl rfl rfl rfl (.pickF rfl rfl) ?_
      refine RunT.ot0 (x := .v (.bool false)) rfl rfl rfl rfl (.moveX rfl) ?_
      refine RunT.xn rfl rfl rfl rfl rfl rfl ?_
      refine RunT.xn rfl rfl rfl rfl rfl rfl ?_
      refine RunT.xn rfl rfl rfl rfl rfl rfl ?_
      refine RunT.xn rfl rfl rfl rfl rfl rfl ?_
      refine RunT.ot0 (x := .v (.bool false)) rfl rfl rfl rfl (.pickF rfl rfl) ?_
      refine RunT.ot0 (x := .v (.bool false)) rfl rfl rfl rfl (.assignX rfl) ?_
      refine RunT.nil ?_
      obtain rfl := si H
      refine T.sub (sub_to (st' := ⟨[(0, .v (.bool false))], [], 8, []⟩) [] (by decide) rfl rfl (⟨⟨_, rfl, .one .v⟩, trivial⟩) (trivial)) ?_
      refine T.ret ?_
      exact RetOk.same [.v (.bool false)] ⟨rfl, trivial⟩ rfl rfl rfl
  · replace H := cf H g13
    refine RunT.xn rfl rfl rfl (bo g13) rfl rfl ?_
    refine RunT.xn rfl rfl rfl (bo g13) rfl rfl ?_
    refine RunT.xn rfl rfl rfl (bo g13) rfl rfl ?_
    refine RunT.ot0 (x := .v (.bool false)) rfl rfl rfl rfl (.pickF (bo g13) rfl) ?_
    refine RunT.ot0 (x := .v (.bool false)) rfl rfl rfl rfl (.moveX rfl) ?_
    refine RunT.xn rfl rfl rfl rfl rfl rfl ?_
    refine RunT.xn rfl rfl rfl rfl rfl rfl ?_
    refine RunT.xn rfl rfl rfl rfl rfl rfl ?_
    refine RunT.xn rfl rfl rfl rfl rfl rfl ?_
    refine RunT.ot0 (x := .v (.bool false)) rfl rfl rfl rfl (.pickF rfl rfl) ?_
    refine RunT.ot0 (x := .v (.bool false)) rfl rfl rfl rfl (.moveX rfl) ?_
    refine RunT.xn rfl rfl rfl rfl rfl rfl ?_
    refine RunT.xn rfl rfl rfl rfl rfl rfl ?_
    refine RunT.xn rfl rfl rfl rfl rfl rfl ?_
    refine RunT.xn rfl rfl rfl rfl rfl rfl ?_
    refine RunT.ot0 (x := .v (.bool false)) rfl rfl rfl rfl (.pickF rfl rfl) ?_
    refine RunT.ot0 (x := .v (.bool false)) rfl rfl rfl rfl (.moveX rfl) ?_
    refine RunT.xn rfl rfl rfl rfl rfl rfl ?_
    refine RunT.xn rfl rfl rfl rfl rfl rfl ?_
    refine RunT.xn rfl rfl rfl rfl rfl rfl ?_
    refine RunT.xn rfl rfl rfl rfl rfl rfl ?_
    refine RunT.ot0 (x := .v (.bool false)) rfl rfl rfl rfl (.pickF rfl rfl) ?_
    refine RunT.ot0 (x := .v (.bool false)) rfl rfl rfl rfl (.moveX rfl) ?_
    refine RunT.xn rfl rfl rfl rfl rfl rfl ?_
    refine RunT.xn rfl rfl rfl rfl rfl rfl ?_
    refine RunT.xn rfl rfl rfl rfl rfl rfl ?_
    refine RunT.xn rfl rfl rfl rfl rfl rfl ?_
    refine RunT.ot0 (x := .v (.bool false)) rfl rfl rfl rfl (.pickF rfl rfl) ?_
    refine RunT.ot0 (x := .v (.bool false)) rfl rfl rfl rfl (.moveX rfl) ?_
    refine RunT.xn rfl rfl rfl rfl rfl rfl ?_
    refine RunT.xn rfl rfl rfl rfl rfl rfl ?_
    refine RunT.ot0 (x := .v (.bool false)) rfl rfl rfl rfl (.pickF rfl rfl) ?_
    refine RunT.ot0 (x := .v (.bool false)) rfl rfl rfl rfl (.moveX rfl) ?_
    refine RunT.xn rfl rfl rfl rfl rfl rfl ?_
    refine RunT.xn rfl rfl rfl rfl rfl rfl ?_
    refine RunT.xn rfl rfl rfl rfl rfl rfl ?_
    refine RunT.ot0 (x := .v (.bool false)) rfl rfl rfl rfl (.pickF rfl rfl) ?_
    refine RunT.ot0 (x := .v (.bool false)) rfl rfl rfl rfl (.moveX rfl) ?_
    refine RunT.xn rfl rfl rfl rfl rfl rfl ?_
    refine RunT.xn rfl rfl rfl rfl rfl rfl ?_
    refine RunT.ot0 (x := .v (.bool false)) rfl rfl rfl rfl (.pickF rfl rfl) ?_
    refine RunT.ot0 (x := .v (.bool false)) rfl rfl rfl rfl (.moveX rfl) ?_
    refine RunT.xn rfl rfl rfl rfl rfl rfl ?_
    refine RunT.xn rfl rfl rfl rfl rfl rfl ?_
    refine RunT.xn rfl rfl rfl rfl rfl rfl ?_
    refine RunT.ot0 (x := .v (.bool false)) rfl rfl rfl rfl (.pickF rfl rfl) ?_
    refine RunT.ot0 (x := .v (.bool false)) rfl rfl rfl rfl (.moveX rfl) ?_
    refine RunT.xn rfl rfl rfl rfl rfl rfl ?_
    refine RunT.xn rfl rfl rfl rfl rfl rfl ?_
    refine RunT.ot0 (x := .v (.bool false)) rfl rfl rfl rfl (.pickF rfl rfl) ?_
    refine RunT.ot0 (x := .v (.bool false)) rfl rfl rfl rfl (.moveX rfl) ?_
    refine RunT.xn rfl rfl rfl rfl rfl rfl ?_
    refine RunT.xn rfl rfl rfl rfl rfl rfl ?_
    refine RunT.ot0 (x := .v (.bool false)) rfl rfl rfl rfl (.pickF rfl rfl) ?_
    refine RunT.ot0 (x := .v (.bool false)) rfl rfl rfl rfl (.moveX rfl) ?_
    refine RunT.xn rfl rfl rfl rfl rfl rfl ?_
    refine RunT.xn rfl rfl rfl rfl rfl rfl ?_
    refine RunT.ot0 (x := .v (.bool false)) rfl rfl rfl rfl (.pickF rfl rfl) ?_
    refine RunT.ot0 (x := .v (.bool false)) rfl rfl rfl rfl (.moveX rfl) ?_
    refine RunT.xn rfl rfl rfl rfl rfl rfl ?_
    refine RunT.xn rfl rfl rfl rfl rfl rfl ?_
    refine RunT.ot0 (x := .v (.bool false)) rfl rfl rfl rfl (.pickF rfl rfl) ?_
    refine RunT.ot0 (x := .v (.bool false)) rfl rfl rfl rfl (.moveX rfl) ?_
    refine RunT.xn rfl rfl rfl rfl rfl rfl ?_
    refine RunT.xn rfl rfl rfl rfl rfl rfl ?_
    refine RunT.xn rfl rfl rfl rfl rfl rfl ?_
    refine RunT.ot0 (x := .v (.bool false)) rfl rfl rfl rfl (.pickF rfl rfl) ?_
    refine RunT.ot0 (x := .v (.bool false)) rfl rfl rfl rfl (.moveX rfl) ?_
    refine RunT.xn rfl rfl rfl rfl rfl rfl ?_
    refine RunT.xn rfl rfl rfl rfl rfl rfl ?_
    refine RunT.xn rfl rfl rfl rfl rfl rfl ?_
    refine RunT.ot0 (x := .v (.bool false)) rfl rfl rfl rfl (.pickF rfl rfl) ?_
    refine RunT.ot0 (x := .v (.bool false)) rfl rfl rfl rfl (.moveX rfl) ?_
    refine RunT.xn rfl rfl rfl rfl rfl rfl ?_
    refine RunT.xn rfl rfl rfl rfl rfl rfl ?_
    refine RunT.xn rfl rfl rfl rfl rfl rfl ?_
    refine RunT.xn rfl rfl rfl rfl rfl rfl ?_
    refine RunT.ot0 (x := .v (.bool false)) rfl rfl rfl rfl (.pickF rfl rfl) ?_
    refine RunT.ot0 (x := .v (.bool false)) rfl rfl rfl rfl (.assignX rfl) ?_
    refine RunT.nil ?_
    obtain rfl := si H
    refine T.sub (sub_to (st' := ⟨[(0, .v (.bool false))], [], 8, []⟩) [] (by decide) rfl rfl (⟨⟨_, rfl, .one .v⟩, trivial⟩) (trivial)) ?_
    refine T.ret ?_
    exact RetOk.same [.v (.bool false)] ⟨rfl, trivial⟩ rfl rfl rfl
set_option maxHeartbeats 4000000 in
theorem law22_RecordEdges_pc (al : Bool) (k : Nat) (a0 : Int) (a1 : Int) (o : Bool) (H : law22_RecordEdges k a0 a1 = some o) : PC Try.prog al 12 [.v (.int .i64 a0), .v (.int .i64 a1)] (.v (.bool o)) := by
  unfold law22_RecordEdges at H
  refine PC.of_T Try.func12 rfl rfl (n := 101) rfl rfl (.inr rfl) ?_
  intro base B w0
  refine T.st (st' := ⟨[(0, .v (.int .i64 a0)), (1, .v (.int .i64 a1))], [], 0, []⟩) rfl ?_
  refine T.seq ?_
  refine T.region ?_
  refine RunT.ot0 (x := .v (.bool false)) rfl rfl rfl rfl (.assignX rfl) ?_
  refine RunT.nil ?_
  refine T.seq ?_
  refine T.region ?_
  refine RunT.ot0 (x := .agg [.v (.int .i64 4), .v (.int .i64 1)]) rfl rfl rfl rfl (.bu bu23 rfl) ?_
  refine RunT.ot0 (x := .agg [.v (.int .i64 5), .v (.int .i64 1), .v (.int .i64 4), .v (.int .i64 1), .v (.int .i64 5), .v (.int .i64 3)]) rfl rfl rfl rfl (.bu bu49 rfl) ?_
  refine RunT.ot1 (x := .ptr 0 0) (p0 := (0, some (.box [.v (.int .i64 0), .v (.int .i64 0), .v (.int .i64 0), .v (.int .i64 0), .v (.int .i64 0), .v (.int .i64 0)]))) (n' := 8) rfl rfl rfl rfl (.allocX in49.zero rfl rfl) rfl ?_
  refine RunT.on1 (x := .junk) (p0 := (0, some (.box [.v (.int .i64 5), .v (.int .i64 1), .v (.int .i64 4), .v (.int .i64 1), .v (.int .i64 5), .v (.int .i64 3)]))) (n' := 16) rfl rfl rfl (.storePX ty49 rfl rfl rfl rfl rfl rfl rfl) rfl ?_
  refine RunT.nil ?_
  refine T.seq ?_
  refine T.region ?_
  refine RunT.ot1 (x := .own 16 0 (([1, 1, 2, 0, 0, (-1)]).length)) (p0 := (16, some (.arr false 1 (List.map eI [1, 1, 2, 0, 0, (-1)])))) (n' := 24) rfl rfl rfl rfl (.bslicem (d := false) (l := [1, 1, 2, 0, 0, (-1)]) (f := eI) sl63 rfl rfl rfl enc_I rfl) rfl ?_
  refine RunT.ot0 (x := .own 16 0 (([1, 1, 2, 0, 0, (-1)]).length)) rfl rfl rfl rfl (.assignX rfl) ?_
  refine RunT.nil ?_
  refine T.seq ?_
  refine T.region ?_
  refine RunT.ot1 (x := .own 24 0 (([2147483647, 3, 8, 2, 1099511627776, 4095]).length)) (p0 := (24, some (.arr false 1 (List.map eI [2147483647, 3, 8, 2, 1099511627776, 4095])))) (n' := 32) rfl rfl rfl rfl (.bslicem (d := false) (l := [2147483647, 3, 8, 2, 1099511627776, 4095]) (f := eI) sl63 rfl rfl rfl enc_I rfl) rfl ?_
  refine RunT.ot0 (x := .own 24 0 (([2147483647, 3, 8, 2, 1099511627776, 4095]).length)) rfl rfl rfl rfl (.assignX rfl) ?_
  refine RunT.nil ?_
  refine T.seq ?_
  refine T.region ?_
  refine RunT.ot0 (x := .v (.int .i64 a0)) rfl rfl rfl rfl (.moveX rfl) ?_
  refine RunT.ot0 (x := .v (.int .u64 (IntKind.u64.wrap a0))) rfl rfl rfl rfl (.conv rfl (fun w => c_int w ⟨_, Try.underlying3⟩ Try.underlying31) rfl) ?_
  refine RunT.ot0 (x := .v (.int .u64 ((IntKind.u64.wrap a0).tmod 6))) rfl rfl rfl rfl (.bin rfl rfl (fun w => b_rem w (by decide)) rfl) ?_
  refine RunT.ot0 (x := .v (.int .i64 a1)) rfl rfl rfl rfl (.moveX rfl) ?_
  refine RunT.ot0 (x := .v (.int .u64 (IntKind.u64.wrap a1))) rfl rfl rfl rfl (.conv rfl (fun w => c_int w ⟨_, Try.underlying3⟩ Try.underlying31) rfl) ?_
  refine RunT.ot0 (x := .v (.int .u64 ((IntKind.u64.wrap a1).tmod 4))) rfl rfl rfl rfl (.bin rfl rfl (fun w => b_rem w (by decide)) rfl) ?_
  refine RunT.ot0 (x := .v (.int .u64 ((IntKind.u64.wrap a0).tmod 6))) rfl rfl rfl rfl (.assignX rfl) ?_
  refine RunT.ot0 (x := .v (.int .u64 ((IntKind.u64.wrap a1).tmod 4))) rfl rfl rfl rfl (.assignX rfl) ?_
  refine RunT.nil ?_
  refine T.seq ?_
  refine T.sub (sub_pick [5, 6, 7, 8, 9] [0, 16, 24] (st' := ⟨[(5, .ptr 0 0), (6, .own 16 0 (([1, 1, 2, 0, 0, (-1)]).length)), (7, .own 24 0 (([2147483647, 3, 8, 2, 1099511627776, 4095]).length)), (8, .v (.int .u64 ((IntKind.u64.wrap a0).tmod 6))), (9, .v (.int .u64 ((IntKind.u64.wrap a1).tmod 4)))], [(0, some (.box [.v (.int .i64 5), .v (.int .i64 1), .v (.int .i64 4), .v (.int .i64 1), .v (.int .i64 5), .v (.int .i64 3)])), (16, some (.arr false 1 (List.map eI [1, 1, 2, 0, 0, (-1)]))), (24, some (.arr false 1 (List.map eI [2147483647, 3, 8, 2, 1099511627776, 4095])))], 32, []⟩) rfl rfl rfl rfl rfl) ?_
  refine T.draw (wr := []) mixed rfl rfl ?_ rfl
  refine RunD.ot0 (x := .own 16 0 (([1, 1, 2, 0, 0, (-1)]).length)) rfl rfl rfl rfl (.moveX rfl) rfl ?_
  refine RunD.ot0 (x := .v (.int .u64 ((IntKind.u64.wrap a0).tmod 6))) rfl rfl rfl rfl (.moveX rfl) rfl ?_
  obtain ⟨y11, h12, H⟩ := bs H
  refine RunD.ot0 (x := .eptr 16 ((IntKind.u64.wrap a0).tmod 6).toNat 0) rfl rfl rfl rfl (.idxOn rfl sl63 rfl rfl rfl h12) rfl ?_
  refine RunD.ot0 (x := .v (.int .i64 y11)) rfl rfl rfl rfl (.loadEm ty2 rfl rfl (ixs h12).2.1 rfl) rfl ?_
  refine RunD.ot0 (x := .own 24 0 (([2147483647, 3, 8, 2, 1099511627776, 4095]).length)) rfl rfl rfl rfl (.moveX rfl) rfl ?_
  refine RunD.ot0 (x := .v (.int .u64 ((IntKind.u64.wrap a0).tmod 6))) rfl rfl rfl rfl (.moveX rfl) rfl ?_
  obtain ⟨y13, h14, H⟩ := bs H
  refine RunD.ot0 (x := .eptr 24 ((IntKind.u64.wrap a0).tmod 6).toNat 0) rfl rfl rfl rfl (.idxOn rfl sl63 rfl rfl rfl h14) rfl ?_
  refine RunD.ot0 (x := .v (.int .i64 y13)) rfl rfl rfl rfl (.loadEm ty2 rfl rfl (ixs h14).2.1 rfl) rfl ?_
  refine RunD.ot0 (x := .own 16 0 (([1, 1, 2, 0, 0, (-1)]).length)) rfl rfl rfl rfl (.moveX rfl) rfl ?_
  refine RunD.ot0 (x := .v (.int .u64 ((IntKind.u64.wrap a0).tmod 6))) rfl rfl rfl rfl (.moveX rfl) rfl ?_
  obtain ⟨y15, h16, H⟩ := bs H
  refine RunD.ot0 (x := .eptr 16 ((IntKind.u64.wrap a0).tmod 6).toNat 0) rfl rfl rfl rfl (.idxOn rfl sl63 rfl rfl rfl h16) rfl ?_
  refine RunD.ot0 (x := .v (.int .i64 y15)) rfl rfl rfl rfl (.loadEm ty2 rfl rfl (ixs h16).2.1 rfl) rfl ?_
  refine RunD.ot0 (x := .v (.int .i64 (wr (y15 - 1)))) rfl rfl rfl rfl (.bin rfl rfl (fun w => b_subw w) rfl) rfl ?_
  refine RunD.ot0 (x := .own 24 0 (([2147483647, 3, 8, 2, 1099511627776, 4095]).length)) rfl rfl rfl rfl (.moveX rfl) rfl ?_
  refine RunD.ot0 (x := .v (.int .u64 ((IntKind.u64.wrap a0).tmod 6))) rfl rfl rfl rfl (.moveX rfl) rfl ?_
  obtain ⟨y17, h18, H⟩ := bs H
  refine RunD.ot0 (x := .eptr 24 ((IntKind.u64.wrap a0).tmod 6).toNat 0) rfl rfl rfl rfl (.idxOn rfl sl63 rfl rfl rfl h18) rfl ?_
  refine RunD.ot0 (x := .v (.int .i64 y17)) rfl rfl rfl rfl (.loadEm ty2 rfl rfl (ixs h18).2.1 rfl) rfl ?_
  refine RunD.ot0 (x := .v (.int .i64 (wr (y17 + 1)))) rfl rfl rfl rfl (.bin rfl rfl (fun w => b_addw w) rfl) rfl ?_
  refine RunD.ot1 (x := .own 176 0 (([y11, y13, wr (y15 - 1), wr (y17 + 1)]).length)) (p0 := (176, some (.arr false 1 (List.map eI [y11, y13, wr (y15 - 1), wr (y17 + 1)])))) rfl rfl rfl rfl (.bslicem (d := false) (l := [y11, y13, wr (y15 - 1), wr (y17 + 1)]) (f := eI) sl63 rfl rfl rfl enc_I rfl) rfl ?_
  refine RunD.ot0 (x := .v (.int .u64 ((IntKind.u64.wrap a1).tmod 4))) rfl rfl rfl rfl (.moveX rfl) rfl ?_
  obtain ⟨y19, h20, H⟩ := bs H
  refine RunD.ot0 (x := .eptr 176 ((IntKind.u64.wrap a1).tmod 4).toNat 0) rfl rfl rfl rfl (.idxOn rfl sl63 rfl rfl rfl h20) rfl ?_
  refine RunD.ot0 (x := .v (.int .i64 y19)) rfl rfl rfl rfl (.loadEm ty2 rfl rfl (ixs h20).2.1 rfl) rfl ?_
  refine RunD.ot0 (x := .v (.int .i64 y19)) rfl rfl rfl rfl (.assignX rfl) rfl ?_
  refine RunD.nil (by kernel_rfl) ⟨rfl, rfl, ?_⟩
  refine T.seq ?_
  refine T.seq ?_
  refine T.sub (sub_pick [5, 8, 9, 10] [0] (st' := ⟨[(5, .ptr 0 0), (8, .v (.int .u64 ((IntKind.u64.wrap a0).tmod 6))), (9, .v (.int .u64 ((IntKind.u64.wrap a1).tmod 4))), (10, .v (.int .i64 y19))], [(0, some (.box [.v (.int .i64 5), .v (.int .i64 1), .v (.int .i64 4), .v (.int .i64 1), .v (.int .i64 5), .v (.int .i64 3)]))], 216, []⟩) rfl rfl rfl rfl rfl) ?_
  refine T.region ?_
  refine RunT.ot0 (x := .v (.int .u64 ((IntKind.u64.wrap a0).tmod 6))) rfl rfl rfl rfl (.moveX rfl) ?_
  refine RunT.nil ?_
  refine T.block ?_
  refine T.seq ?_
  refine T.region ?_
  refine RunT.ot0 (x := .v (.bool (decide (((IntKind.u64.wrap a0).tmod 6) = 0)))) rfl rfl rfl rfl (.bin rfl rfl (fun w => b_eql w) rfl) ?_
  refine RunT.ot0 (x := .v (.bool (decide (((IntKind.u64.wrap a0).tmod 6) = 0)))) rfl rfl rfl rfl (.assignX rfl) ?_
  refine RunT.nil ?_
  refine T.cond2 (t := decide (((IntKind.u64.wrap a0).tmod 6) = 0)) rfl (fun c21 => ?_) (fun c21 => ?_)
  · replace H := ct H c21
    refine T.region ?_
    refine RunT.ot0 (x := .v (.int .i64 y19)) rfl rfl rfl rfl (.moveX rfl) ?_
    refine RunT.ot0 (x := .ptr 0 0) rfl rfl rfl rfl (.fieldPX fl49_0 rfl rfl) ?_
    refine RunT.on1 (x := .junk) (p0 := (0, some (.box [.v (.int .i64 y19), .v (.int .i64 1), .v (.int .i64 4), .v (.int .i64 1), .v (.int .i64 5), .v (.int .i64 3)]))) (n' := 224) rfl rfl rfl (.storePX ty3 rfl rfl rfl rfl rfl rfl rfl) rfl ?_
    refine RunT.nil ?_
    refine T.seq ?_
    refine T.region ?_
    refine RunT.ot0 (x := .agg [.v (.int .i64 y19), .v (.int .i64 1), .v (.int .i64 4), .v (.int .i64 1), .v (.int .i64 5), .v (.int .i64 3)]) rfl rfl rfl rfl (.loadP ty49 rfl rfl rfl) ?_
    refine RunT.ot0 (x := .agg [.v (.int .i64 2), .v (.string (⟨#[]⟩ : ByteArray)), .v (.int .i64 y19), .v (.int .i64 1), .v (.int .i64 4), .v (.int .i64 1), .v (.int .i64 5), .v (.int .i64 3), .v (.int .i64 0)]) rfl rfl rfl rfl (.bu bu51 rfl) ?_
    refine RunT.ot1 (x := .ptr 224 0) (p0 := (224, some (.box [.v (.int .i64 0), .v (.string (⟨#[]⟩ : ByteArray)), .v (.int .i64 0), .v (.int .i64 0), .v (.int .i64 0), .v (.int .i64 0), .v (.int .i64 0), .v (.int .i64 0), .v (.int .i64 0)]))) (n' := 232) rfl rfl rfl rfl (.allocX in51.zero rfl rfl) rfl ?_
    refine RunT.on1 (x := .junk) (p0 := (224, some (.box [.v (.int .i64 2), .v (.string (⟨#[]⟩ : ByteArray)), .v (.int .i64 y19), .v (.int .i64 1), .v (.int .i64 4), .v (.int .i64 1), .v (.int .i64 5), .v (.int .i64 3), .v (.int .i64 0)]))) (n' := 240) rfl rfl rfl (.storePX ty51 rfl rfl rfl rfl rfl rfl rfl) rfl ?_
    refine RunT.nil ?_
    refine T.seq ?_
    refine T.region ?_
    refine RunT.ot0 (x := .agg [.v (.int .i64 2), .v (.string (⟨#[]⟩ : ByteArray)), .v (.int .i64 y19), .v (.int .i64 1), .v (.int .i64 4), .v (.int .i64 1), .v (.int .i64 5), .v (.int .i64 3), .v (.int .i64 0)]) rfl rfl rfl rfl (.loadP ty51 rfl rfl rfl) ?_
    obtain ⟨r22, h23, H⟩ := bs H
    refine RunT.ot0 (x := .tup [.lst (List.map eU8 r22.1), .v (.int .i64 r22.2)]) rfl rfl rfl rfl (.callp (PC.frozen (record_Put_pc false k (Record.mk 2 (⟨#[]⟩ : ByteArray) (Order.mk y19 1 (Party.mk 4 1) 5 3) 0) r22 h23)) rfl ⟨(.agg' ⟨.v, .v, .v, .v, .v, .v, .v, .v, .v, trivial⟩), trivial⟩ rfl rfl rfl) ?_
    refine RunT.ot0 (x := .tup [.lst (List.map eU8 r22.1), .v (.int .i64 r22.2)]) rfl rfl rfl rfl (.moveX rfl) ?_
    refine RunT.ot0 (x := .lst (List.map eU8 r22.1)) rfl rfl rfl rfl (.extract rfl rfl) ?_
    refine RunT.ot0 (x := .v (.int .i64 r22.2)) rfl rfl rfl rfl (.extract rfl rfl) ?_
    refine RunT.ot0 (x := .lst (List.map eU8 r22.1)) rfl rfl rfl rfl (.assignX rfl) ?_
    refine RunT.ot0 (x := .v (.int .i64 r22.2)) rfl rfl rfl rfl (.assignX rfl) ?_
    refine RunT.nil ?_
    refine T.seq ?_
    refine T.sub (sub_pick [9, 11, 12, 13] [224] (st' := ⟨[(9, .v (.int .u64 ((IntKind.u64.wrap a1).tmod 4))), (11, .ptr 224 0), (12, .lst (List.map eU8 r22.1)), (13, .v (.int .i64 r22.2))], [(224, some (.box [.v (.int .i64 2), .v (.string (⟨#[]⟩ : ByteArray)), .v (.int .i64 y19), .v (.int .i64 1), .v (.int .i64 4), .v (.int .i64 1), .v (.int .i64 5), .v (.int .i64 3), .v (.int .i64 0)]))], 240, []⟩) rfl rfl rfl rfl rfl) ?_
    refine T.region ?_
    obtain ⟨r24, h25, H⟩ := bs H
    refine RunT.ot0 (x := .v (.bool r24)) rfl rfl rfl rfl (.callp (law22_told_pc false k  r24 h25) rfl trivial rfl rfl rfl) ?_
    refine RunT.ot0 (x := .v (.bool r24)) rfl rfl rfl rfl (.moveX rfl) ?_
    refine RunT.cases (t := 79) (c := r24) rfl (fun g26 => ?_) (fun g26 => ?_)
    · replace H := ct H g26
      refine RunT.gt0 (x := .agg [.v (.int .i64 2), .v (.string (⟨#[]⟩ : ByteArray)), .v (.int .i64 y19), .v (.int .i64 1), .v (.int .i64 4), .v (.int .i64 1), .v (.int .i64 5), .v (.int .i64 3), .v (.int .i64 0)]) rfl rfl rfl (bo g26) rfl rfl (.loadP ty51 rfl rfl rfl) ?_
      obtain ⟨r27, h28, H⟩ := bs H
      refine RunT.gt0 (x := .v (.bool r27)) rfl rfl rfl (bo g26) rfl rfl (.callp (record_May_pc false k (Record.mk 2 (⟨#[]⟩ : ByteArray) (Order.mk y19 1 (Party.mk 4 1) 5 3) 0) r27 h28) rfl ⟨(.agg' ⟨.v, .v, .v, .v, .v, .v, .v, .v, .v, trivial⟩), trivial⟩ rfl rfl rfl) ?_
      refine RunT.gt0 (x := .v (.int .u64 ((IntKind.u64.wrap a1).tmod 4))) rfl rfl rfl (bo g26) rfl rfl (.moveX rfl) ?_
      refine RunT.gt0 (x := .v (.bool (decide (((IntKind.u64.wrap a1).tmod 4) < 2)))) rfl rfl rfl (bo g26) rfl rfl (.bin rfl rfl (fun w => b_lss w) rfl) ?_
      refine RunT.gt0 (x := .v (.bool (r27 == (decide (((IntKind.u64.wrap a1).tmod 4) < 2))))) rfl rfl rfl (bo g26) rfl rfl (.bin rfl rfl (fun w => b_eqB w Try.underlying4) rfl) ?_
      refine RunT.ot0 (x := .v (.bool (r27 == (decide (((IntKind.u64.wrap a1).tmod 4) < 2))))) rfl rfl rfl rfl (.pickT (bo g26) rfl) ?_
      refine RunT.ot0 (x := .v (.bool (r27 == (decide (((IntKind.u64.wrap a1).tmod 4) < 2))))) rfl rfl rfl rfl (.moveX rfl) ?_
      refine RunT.cases (t := 86) (c := r27 == (decide (((IntKind.u64.wrap a1).tmod 4) < 2))) rfl (fun g29 => ?_) (fun g29 => ?_)
      · replace H := ct H g29
        refine RunT.gt0 (x := .v (.int .i64 r22.2)) rfl rfl rfl (bo g29) rfl rfl (.moveX rfl) ?_
        refine RunT.gt0 (x := .v (.bool (decide (r22.2 = 0)))) rfl rfl rfl (bo g29) rfl rfl (.bin rfl rfl (fun w => b_eql w) rfl) ?_
        refine RunT.gt0 (x := .v (.int .u64 ((IntKind.u64.wrap a1).tmod 4))) rfl rfl rfl (bo g29) rfl rfl (.moveX rfl) ?_
        refine RunT.gt0 (x := .v (.bool (decide (((IntKind.u64.wrap a1).tmod 4) < 2)))) rfl rfl rfl (bo g29) rfl rfl (.bin rfl rfl (fun w => b_lss w) rfl) ?_
        refine RunT.gt0 (x := .v (.bool ((decide (r22.2 = 0)) == (decide (((IntKind.u64.wrap a1).tmod 4) < 2))))) rfl rfl rfl (bo g29) rfl rfl (.bin rfl rfl (fun w => b_eqB w Try.underlying4) rfl) ?_
        refine RunT.ot0 (x := .v (.bool ((decide (r22.2 = 0)) == (decide (((IntKind.u64.wrap a1).tmod 4) < 2))))) rfl rfl rfl rfl (.pickT (bo g29) rfl) ?_
        refine RunT.ot0 (x := .v (.bool ((decide (r22.2 = 0)) == (decide (((IntKind.u64.wrap a1).tmod 4) < 2))))) rfl rfl rfl rfl (.moveX rfl) ?_
        refine RunT.cases (t := 93) (c := (decide (r22.2 = 0)) == (decide (((IntKind.u64.wrap a1).tmod 4) < 2))) rfl (fun g30 => ?_) (fun g30 => ?_)
        · replace H := ct H g30
          refine RunT.gt0 (x := .lst (List.map eU8 r22.1)) rfl rfl rfl (bo g30) rfl rfl (.moveX rfl) ?_
          refine RunT.gt0 (x := .v (.int .i64 (r22.1.length : Int))) rfl rfl rfl (bo g30) rfl rfl (.lenLm Try.underlying35 rfl rfl) ?_
          refine RunT.gt0 (x := .v (.bool (decide ((r22.1.length : Int) = 20)))) rfl rfl rfl (bo g30) rfl rfl (.bin rfl rfl (fun w => b_eql w) rfl) ?_
          refine RunT.gt0 (x := .v (.int .u64 ((IntKind.u64.wrap a1).tmod 4))) rfl rfl rfl (bo g30) rfl rfl (.moveX rfl) ?_
          refine RunT.gt0 (x := .v (.bool (decide (((IntKind.u64.wrap a1).tmod 4) < 2)))) rfl rfl rfl (bo g30) rfl rfl (.bin rfl rfl (fun w => b_lss w) rfl) ?_
          refine RunT.gt0 (x := .v (.bool ((decide ((r22.1.length : Int) = 20)) == (decide (((IntKind.u64.wrap a1).tmod 4) < 2))))) rfl rfl rfl (bo g30) rfl rfl (.bin rfl rfl (fun w => b_eqB w Try.underlying4) rfl) ?_
          refine RunT.ot0 (x := .v (.bool ((decide ((r22.1.length : Int) = 20)) == (decide (((IntKind.u64.wrap a1).tmod 4) < 2))))) rfl rfl rfl rfl (.pickT (bo g30) rfl) ?_
          refine RunT.ot0 (x := .v (.bool ((decide ((r22.1.length : Int) = 20)) == (decide (((IntKind.u64.wrap a1).tmod 4) < 2))))) rfl rfl rfl rfl (.assignX rfl) ?_
          refine RunT.nil ?_
          obtain rfl := si H
          refine T.sub (sub_to (st' := ⟨[(4, .v (.bool ((decide ((r22.1.length : Int) = 20)) == (decide (((IntKind.u64.wrap a1).tmod 4) < 2)))))], [], 8, []⟩) [] (by decide) rfl rfl (⟨⟨_, rfl, .one .v⟩, trivial⟩) (trivial)) ?_
          refine T.ret ?_
          exact RetOk.same [.v (.bool ((decide ((r22.1.length : Int) = 20)) == (decide (((IntKind.u64.wrap a1).tmod 4) < 2))))] ⟨rfl, trivial⟩ rfl rfl rfl
        · replace H := cf H g30
          refine RunT.xn rfl rfl rfl (bo g30) rfl rfl ?_
          refine RunT.xn rfl rfl rfl (bo g30) rfl rfl ?_
          refine RunT.xn rfl rfl rfl (bo g30) rfl rfl ?_
          refine RunT.xn rfl rfl rfl (bo g30) rfl rfl ?_
          refine RunT.xn rfl rfl rfl (bo g30) rfl rfl ?_
          refine RunT.xn rfl rfl rfl (bo g30) rfl rfl ?_
          refine RunT.ot0 (x := .v (.bool false)) rfl rfl rfl rfl (.pickF (bo g30) rfl) ?_
          refine RunT.ot0 (x := .v (.bool false)) rfl rfl rfl rfl (.assignX rfl) ?_
          refine RunT.nil ?_
          obtain rfl := si H
          refine T.sub (sub_to (st' := ⟨[(4, .v (.bool false))], [], 8, []⟩) [] (by decide) rfl rfl (⟨⟨_, rfl, .one .v⟩, trivial⟩) (trivial)) ?_
          refine T.ret ?_
          exact RetOk.same [.v (.bool false)] ⟨rfl, trivial⟩ rfl rfl rfl
      · replace H := cf H g29
        refine RunT.xn rfl rfl rfl (bo g29) rfl rfl ?_
        refine RunT.xn rfl rfl rfl (bo g29) rfl rfl ?_
        refine RunT.xn rfl rfl rfl (bo g29) rfl rfl ?_
        refine RunT.xn rfl rfl rfl (bo g29) rfl rfl ?_
        refine RunT.xn rfl rfl rfl (bo g29) rfl rfl ?_
        refine RunT.ot0 (x := .v (.bool false)) rfl rfl rfl rfl (.pickF (bo g29) rfl) ?_
        refine RunT.ot0 (x := .v (.bool false)) rfl rfl rfl rfl (.moveX rfl) ?_
        refine RunT.xn rfl rfl rfl rfl rfl rfl ?_
        refine RunT.xn rfl rfl rfl rfl rfl rfl ?_
        refine RunT.xn rfl rfl rfl rfl rfl rfl ?_
        refine RunT.xn rfl rfl rfl rfl rfl rfl ?_
        refine RunT.xn rfl rfl rfl rfl rfl rfl ?_
        refine RunT.xn rfl rfl rfl rfl rfl rfl ?_
        refine RunT.ot0 (x := .v (.bool false)) rfl rfl rfl rfl (.pickF rfl rfl) ?_
        refine RunT.ot0 (x := .v (.bool false)) rfl rfl rfl rfl (.assignX rfl) ?_
        refine RunT.nil ?_
        obtain rfl := si H
        refine T.sub (sub_to (st' := ⟨[(4, .v (.bool false))], [], 8, []⟩) [] (by decide) rfl rfl (⟨⟨_, rfl, .one .v⟩, trivial⟩) (trivial)) ?_
        refine T.ret ?_
        exact RetOk.same [.v (.bool false)] ⟨rfl, trivial⟩ rfl rfl rfl
    · replace H := cf H g26
      refine RunT.xn rfl rfl rfl (bo g26) rfl rfl ?_
      refine RunT.xn rfl rfl rfl (bo g26) rfl rfl ?_
      refine RunT.xn rfl rfl rfl (bo g26) rfl rfl ?_
      refine RunT.xn rfl rfl rfl (bo g26) rfl rfl ?_
      refine RunT.xn rfl rfl rfl (bo g26) rfl rfl ?_
      refine RunT.ot0 (x := .v (.bool false)) rfl rfl rfl rfl (.pickF (bo g26) rfl) ?_
      refine RunT.ot0 (x := .v (.bool false)) rfl rfl rfl rfl (.moveX rfl) ?_
      refine RunT.xn rfl rfl rfl rfl rfl rfl ?_
      refine RunT.xn rfl rfl rfl rfl rfl rfl ?_
      refine RunT.xn rfl rfl rfl rfl rfl rfl ?_
      refine RunT.xn rfl rfl rfl rfl rfl rfl ?_
      refine RunT.xn rfl rfl rfl rfl rfl rfl ?_
      refine RunT.ot0 (x := .v (.bool false)) rfl rfl rfl rfl (.pickF rfl rfl) ?_
      refine RunT.ot0 (x := .v (.bool false)) rfl rfl rfl rfl (.moveX rfl) ?_
      refine RunT.xn rfl rfl rfl rfl rfl rfl ?_
      refine RunT.xn rfl rfl rfl rfl rfl rfl ?_
      refine RunT.xn rfl rfl rfl rfl rfl rfl ?_
      refine RunT.xn rfl rfl rfl rfl rfl rfl ?_
      refine RunT.xn rfl rfl rfl rfl rfl rfl ?_
      refine RunT.xn rfl rfl rfl rfl rfl rfl ?_
      refine RunT.ot0 (x := .v (.bool false)) rfl rfl rfl rfl (.pickF rfl rfl) ?_
      refine RunT.ot0 (x := .v (.bool false)) rfl rfl rfl rfl (.assignX rfl) ?_
      refine RunT.nil ?_
      obtain rfl := si H
      refine T.sub (sub_to (st' := ⟨[(4, .v (.bool false))], [], 8, []⟩) [] (by decide) rfl rfl (⟨⟨_, rfl, .one .v⟩, trivial⟩) (trivial)) ?_
      refine T.ret ?_
      exact RetOk.same [.v (.bool false)] ⟨rfl, trivial⟩ rfl rfl rfl
  · replace H := cf H c21
    refine T.seq ?_
    refine T.sub (sub_pick [5, 9, 10, 46] [0] (st' := ⟨[(5, .ptr 0 0), (9, .v (.int .u64 ((IntKind.u64.wrap a1).tmod 4))), (10, .v (.int .i64 y19)), (46, .v (.int .u64 ((IntKind.u64.wrap a0).tmod 6)))], [(0, some (.box [.v (.int .i64 5), .v (.int .i64 1), .v (.int .i64 4), .v (.int .i64 1), .v (.int .i64 5), .v (.int .i64 3)]))], 216, []⟩) rfl rfl rfl rfl rfl) ?_
    refine T.region ?_
    refine RunT.ot0 (x := .v (.bool (decide (((IntKind.u64.wrap a0).tmod 6) = 1)))) rfl rfl rfl rfl (.bin rfl rfl (fun w => b_eql w) rfl) ?_
    refine RunT.ot0 (x := .v (.bool (decide (((IntKind.u64.wrap a0).tmod 6) = 1)))) rfl rfl rfl rfl (.assignX rfl) ?_
    refine RunT.nil ?_
    refine T.cond2 (t := decide (((IntKind.u64.wrap a0).tmod 6) = 1)) rfl (fun c31 => ?_) (fun c31 => ?_)
    · replace H := ct H c31
      refine T.region ?_
      refine RunT.ot0 (x := .v (.int .i64 y19)) rfl rfl rfl rfl (.moveX rfl) ?_
      refine RunT.ot0 (x := .ptr 0 1) rfl rfl rfl rfl (.fieldPX fl49_1 rfl rfl) ?_
      refine RunT.on1 (x := .junk) (p0 := (0, some (.box [.v (.int .i64 5), .v (.int .i64 y19), .v (.int .i64 4), .v (.int .i64 1), .v (.int .i64 5), .v (.int .i64 3)]))) (n' := 224) rfl rfl rfl (.storePX ty3 rfl rfl rfl rfl rfl rfl rfl) rfl ?_
      refine RunT.nil ?_
      refine T.seq ?_
      refine T.region ?_
      refine RunT.ot0 (x := .agg [.v (.int .i64 5), .v (.int .i64 y19), .v (.int .i64 4), .v (.int .i64 1), .v (.int .i64 5), .v (.int .i64 3)]) rfl rfl rfl rfl (.loadP ty49 rfl rfl rfl) ?_
      refine RunT.ot0 (x := .agg [.v (.int .i64 2), .v (.string (⟨#[]⟩ : ByteArray)), .v (.int .i64 5), .v (.int .i64 y19), .v (.int .i64 4), .v (.int .i64 1), .v (.int .i64 5), .v (.int .i64 3), .v (.int .i64 0)]) rfl rfl rfl rfl (.bu bu51 rfl) ?_
      refine RunT.ot1 (x := .ptr 224 0) (p0 := (224, some (.box [.v (.int .i64 0), .v (.string (⟨#[]⟩ : ByteArray)), .v (.int .i64 0), .v (.int .i64 0), .v (.int .i64 0), .v (.int .i64 0), .v (.int .i64 0), .v (.int .i64 0), .v (.int .i64 0)]))) (n' := 232) rfl rfl rfl rfl (.allocX in51.zero rfl rfl) rfl ?_
      refine RunT.on1 (x := .junk) (p0 := (224, some (.box [.v (.int .i64 2), .v (.string (⟨#[]⟩ : ByteArray)), .v (.int .i64 5), .v (.int .i64 y19), .v (.int .i64 4), .v (.int .i64 1), .v (.int .i64 5), .v (.int .i64 3), .v (.int .i64 0)]))) (n' := 240) rfl rfl rfl (.storePX ty51 rfl rfl rfl rfl rfl rfl rfl) rfl ?_
      refine RunT.nil ?_
      refine T.seq ?_
      refine T.region ?_
      refine RunT.ot0 (x := .agg [.v (.int .i64 2), .v (.string (⟨#[]⟩ : ByteArray)), .v (.int .i64 5), .v (.int .i64 y19), .v (.int .i64 4), .v (.int .i64 1), .v (.int .i64 5), .v (.int .i64 3), .v (.int .i64 0)]) rfl rfl rfl rfl (.loadP ty51 rfl rfl rfl) ?_
      obtain ⟨r32, h33, H⟩ := bs H
      refine RunT.ot0 (x := .tup [.lst (List.map eU8 r32.1), .v (.int .i64 r32.2)]) rfl rfl rfl rfl (.callp (PC.frozen (record_Put_pc false k (Record.mk 2 (⟨#[]⟩ : ByteArray) (Order.mk 5 y19 (Party.mk 4 1) 5 3) 0) r32 h33)) rfl ⟨(.agg' ⟨.v, .v, .v, .v, .v, .v, .v, .v, .v, trivial⟩), trivial⟩ rfl rfl rfl) ?_
      refine RunT.ot0 (x := .tup [.lst (List.map eU8 r32.1), .v (.int .i64 r32.2)]) rfl rfl rfl rfl (.moveX rfl) ?_
      refine RunT.ot0 (x := .lst (List.map eU8 r32.1)) rfl rfl rfl rfl (.extract rfl rfl) ?_
      refine RunT.ot0 (x := .v (.int .i64 r32.2)) rfl rfl rfl rfl (.extract rfl rfl) ?_
      refine RunT.ot0 (x := .lst (List.map eU8 r32.1)) rfl rfl rfl rfl (.assignX rfl) ?_
      refine RunT.ot0 (x := .v (.int .i64 r32.2)) rfl rfl rfl rfl (.assignX rfl) ?_
      refine RunT.nil ?_
      refine T.seq ?_
      refine T.sub (sub_pick [9, 11, 12, 13] [224] (st' := ⟨[(9, .v (.int .u64 ((IntKind.u64.wrap a1).tmod 4))), (11, .ptr 224 0), (12, .lst (List.map eU8 r32.1)), (13, .v (.int .i64 r32.2))], [(224, some (.box [.v (.int .i64 2), .v (.string (⟨#[]⟩ : ByteArray)), .v (.int .i64 5), .v (.int .i64 y19), .v (.int .i64 4), .v (.int .i64 1), .v (.int .i64 5), .v (.int .i64 3), .v (.int .i64 0)]))], 240, []⟩) rfl rfl rfl rfl rfl) ?_
      refine T.region ?_
      obtain ⟨r34, h35, H⟩ := bs H
      refine RunT.ot0 (x := .v (.bool r34)) rfl rfl rfl rfl (.callp (law22_told_pc false k  r34 h35) rfl trivial rfl rfl rfl) ?_
      refine RunT.ot0 (x := .v (.bool r34)) rfl rfl rfl rfl (.moveX rfl) ?_
      refine RunT.cases (t := 79) (c := r34) rfl (fun g36 => ?_) (fun g36 => ?_)
      · replace H := ct H g36
        refine RunT.gt0 (x := .agg [.v (.int .i64 2), .v (.string (⟨#[]⟩ : ByteArray)), .v (.int .i64 5), .v (.int .i64 y19), .v (.int .i64 4), .v (.int .i64 1), .v (.int .i64 5), .v (.int .i64 3), .v (.int .i64 0)]) rfl rfl rfl (bo g36) rfl rfl (.loadP ty51 rfl rfl rfl) ?_
        obtain ⟨r37, h38, H⟩ := bs H
        refine RunT.gt0 (x := .v (.bool r37)) rfl rfl rfl (bo g36) rfl rfl (.callp (record_May_pc false k (Record.mk 2 (⟨#[]⟩ : ByteArray) (Order.mk 5 y19 (Party.mk 4 1) 5 3) 0) r37 h38) rfl ⟨(.agg' ⟨.v, .v, .v, .v, .v, .v, .v, .v, .v, trivial⟩), trivial⟩ rfl rfl rfl) ?_
        refine RunT.gt0 (x := .v (.int .u64 ((IntKind.u64.wrap a1).tmod 4))) rfl rfl rfl (bo g36) rfl rfl (.moveX rfl) ?_
        refine RunT.gt0 (x := .v (.bool (decide (((IntKind.u64.wrap a1).tmod 4) < 2)))) rfl rfl rfl (bo g36) rfl rfl (.bin rfl rfl (fun w => b_lss w) rfl) ?_
        refine RunT.gt0 (x := .v (.bool (r37 == (decide (((IntKind.u64.wrap a1).tmod 4) < 2))))) rfl rfl rfl (bo g36) rfl rfl (.bin rfl rfl (fun w => b_eqB w Try.underlying4) rfl) ?_
        refine RunT.ot0 (x := .v (.bool (r37 == (decide (((IntKind.u64.wrap a1).tmod 4) < 2))))) rfl rfl rfl rfl (.pickT (bo g36) rfl) ?_
        refine RunT.ot0 (x := .v (.bool (r37 == (decide (((IntKind.u64.wrap a1).tmod 4) < 2))))) rfl rfl rfl rfl (.moveX rfl) ?_
        refine RunT.cases (t := 86) (c := r37 == (decide (((IntKind.u64.wrap a1).tmod 4) < 2))) rfl (fun g39 => ?_) (fun g39 => ?_)
        · replace H := ct H g39
          refine RunT.gt0 (x := .v (.int .i64 r32.2)) rfl rfl rfl (bo g39) rfl rfl (.moveX rfl) ?_
          refine RunT.gt0 (x := .v (.bool (decide (r32.2 = 0)))) rfl rfl rfl (bo g39) rfl rfl (.bin rfl rfl (fun w => b_eql w) rfl) ?_
          refine RunT.gt0 (x := .v (.int .u64 ((IntKind.u64.wrap a1).tmod 4))) rfl rfl rfl (bo g39) rfl rfl (.moveX rfl) ?_
          refine RunT.gt0 (x := .v (.bool (decide (((IntKind.u64.wrap a1).tmod 4) < 2)))) rfl rfl rfl (bo g39) rfl rfl (.bin rfl rfl (fun w => b_lss w) rfl) ?_
          refine RunT.gt0 (x := .v (.bool ((decide (r32.2 = 0)) == (decide (((IntKind.u64.wrap a1).tmod 4) < 2))))) rfl rfl rfl (bo g39) rfl rfl (.bin rfl rfl (fun w => b_eqB w Try.underlying4) rfl) ?_
          refine RunT.ot0 (x := .v (.bool ((decide (r32.2 = 0)) == (decide (((IntKind.u64.wrap a1).tmod 4) < 2))))) rfl rfl rfl rfl (.pickT (bo g39) rfl) ?_
          refine RunT.ot0 (x := .v (.bool ((decide (r32.2 = 0)) == (decide (((IntKind.u64.wrap a1).tmod 4) < 2))))) rfl rfl rfl rfl (.moveX rfl) ?_
          refine RunT.cases (t := 93) (c := (decide (r32.2 = 0)) == (decide (((IntKind.u64.wrap a1).tmod 4) < 2))) rfl (fun g40 => ?_) (fun g40 => ?_)
          · replace H := ct H g40
            refine RunT.gt0 (x := .lst (List.map eU8 r32.1)) rfl rfl rfl (bo g40) rfl rfl (.moveX rfl) ?_
            refine RunT.gt0 (x := .v (.int .i64 (r32.1.length : Int))) rfl rfl rfl (bo g40) rfl rfl (.lenLm Try.underlying35 rfl rfl) ?_
            refine RunT.gt0 (x := .v (.bool (decide ((r32.1.length : Int) = 20)))) rfl rfl rfl (bo g40) rfl rfl (.bin rfl rfl (fun w => b_eql w) rfl) ?_
            refine RunT.gt0 (x := .v (.int .u64 ((IntKind.u64.wrap a1).tmod 4))) rfl rfl rfl (bo g40) rfl rfl (.moveX rfl) ?_
            refine RunT.gt0 (x := .v (.bool (decide (((IntKind.u64.wrap a1).tmod 4) < 2)))) rfl rfl rfl (bo g40) rfl rfl (.bin rfl rfl (fun w => b_lss w) rfl) ?_
            refine RunT.gt0 (x := .v (.bool ((decide ((r32.1.length : Int) = 20)) == (decide (((IntKind.u64.wrap a1).tmod 4) < 2))))) rfl rfl rfl (bo g40) rfl rfl (.bin rfl rfl (fun w => b_eqB w Try.underlying4) rfl) ?_
            refine RunT.ot0 (x := .v (.bool ((decide ((r32.1.length : Int) = 20)) == (decide (((IntKind.u64.wrap a1).tmod 4) < 2))))) rfl rfl rfl rfl (.pickT (bo g40) rfl) ?_
            refine RunT.ot0 (x := .v (.bool ((decide ((r32.1.length : Int) = 20)) == (decide (((IntKind.u64.wrap a1).tmod 4) < 2))))) rfl rfl rfl rfl (.assignX rfl) ?_
            refine RunT.nil ?_
            obtain rfl := si H
            refine T.sub (sub_to (st' := ⟨[(4, .v (.bool ((decide ((r32.1.length : Int) = 20)) == (decide (((IntKind.u64.wrap a1).tmod 4) < 2)))))], [], 8, []⟩) [] (by decide) rfl rfl (⟨⟨_, rfl, .one .v⟩, trivial⟩) (trivial)) ?_
            refine T.ret ?_
            exact RetOk.same [.v (.bool ((decide ((r32.1.length : Int) = 20)) == (decide (((IntKind.u64.wrap a1).tmod 4) < 2))))] ⟨rfl, trivial⟩ rfl rfl rfl
          · replace H := cf H g40
            refine RunT.xn rfl rfl rfl (bo g40) rfl rfl ?_
            refine RunT.xn rfl rfl rfl (bo g40) rfl rfl ?_
            refine RunT.xn rfl rfl rfl (bo g40) rfl rfl ?_
            refine RunT.xn rfl rfl rfl (bo g40) rfl rfl ?_
            refine RunT.xn rfl rfl rfl (bo g40) rfl rfl ?_
            refine RunT.xn rfl rfl rfl (bo g40) rfl rfl ?_
            refine RunT.ot0 (x := .v (.bool false)) rfl rfl rfl rfl (.pickF (bo g40) rfl) ?_
            refine RunT.ot0 (x := .v (.bool false)) rfl rfl rfl rfl (.assignX rfl) ?_
            refine RunT.nil ?_
            obtain rfl := si H
            refine T.sub (sub_to (st' := ⟨[(4, .v (.bool false))], [], 8, []⟩) [] (by decide) rfl rfl (⟨⟨_, rfl, .one .v⟩, trivial⟩) (trivial)) ?_
            refine T.ret ?_
            exact RetOk.same [.v (.bool false)] ⟨rfl, trivial⟩ rfl rfl rfl
        · replace H := cf H g39
          refine RunT.xn rfl rfl rfl (bo g39) rfl rfl ?_
          refine RunT.xn rfl rfl rfl (bo g39) rfl rfl ?_
          refine RunT.xn rfl rfl rfl (bo g39) rfl rfl ?_
          refine RunT.xn rfl rfl rfl (bo g39) rfl rfl ?_
          refine RunT.xn rfl rfl rfl (bo g39) rfl rfl ?_
          refine RunT.ot0 (x := .v (.bool false)) rfl rfl rfl rfl (.pickF (bo g39) rfl) ?_
          refine RunT.ot0 (x := .v (.bool false)) rfl rfl rfl rfl (.moveX rfl) ?_
          refine RunT.xn rfl rfl rfl rfl rfl rfl ?_
          refine RunT.xn rfl rfl rfl rfl rfl rfl ?_
          refine RunT.xn rfl rfl rfl rfl rfl rfl ?_
          refine RunT.xn rfl rfl rfl rfl rfl rfl ?_
          refine RunT.xn rfl rfl rfl rfl rfl rfl ?_
          refine RunT.xn rfl rfl rfl rfl rfl rfl ?_
          refine RunT.ot0 (x := .v (.bool false)) rfl rfl rfl rfl (.pickF rfl rfl) ?_
          refine RunT.ot0 (x := .v (.bool false)) rfl rfl rfl rfl (.assignX rfl) ?_
          refine RunT.nil ?_
          obtain rfl := si H
          refine T.sub (sub_to (st' := ⟨[(4, .v (.bool false))], [], 8, []⟩) [] (by decide) rfl rfl (⟨⟨_, rfl, .one .v⟩, trivial⟩) (trivial)) ?_
          refine T.ret ?_
          exact RetOk.same [.v (.bool false)] ⟨rfl, trivial⟩ rfl rfl rfl
      · replace H := cf H g36
        refine RunT.xn rfl rfl rfl (bo g36) rfl rfl ?_
        refine RunT.xn rfl rfl rfl (bo g36) rfl rfl ?_
        refine RunT.xn rfl rfl rfl (bo g36) rfl rfl ?_
        refine RunT.xn rfl rfl rfl (bo g36) rfl rfl ?_
        refine RunT.xn rfl rfl rfl (bo g36) rfl rfl ?_
        refine RunT.ot0 (x := .v (.bool false)) rfl rfl rfl rfl (.pickF (bo g36) rfl) ?_
        refine RunT.ot0 (x := .v (.bool false)) rfl rfl rfl rfl (.moveX rfl) ?_
        refine RunT.xn rfl rfl rfl rfl rfl rfl ?_
        refine RunT.xn rfl rfl rfl rfl rfl rfl ?_
        refine RunT.xn rfl rfl rfl rfl rfl rfl ?_
        refine RunT.xn rfl rfl rfl rfl rfl rfl ?_
        refine RunT.xn rfl rfl rfl rfl rfl rfl ?_
        refine RunT.ot0 (x := .v (.bool false)) rfl rfl rfl rfl (.pickF rfl rfl) ?_
        refine RunT.ot0 (x := .v (.bool false)) rfl rfl rfl rfl (.moveX rfl) ?_
        refine RunT.xn rfl rfl rfl rfl rfl rfl ?_
        refine RunT.xn rfl rfl rfl rfl rfl rfl ?_
        refine RunT.xn rfl rfl rfl rfl rfl rfl ?_
        refine RunT.xn rfl rfl rfl rfl rfl rfl ?_
        refine RunT.xn rfl rfl rfl rfl rfl rfl ?_
        refine RunT.xn rfl rfl rfl rfl rfl rfl ?_
        refine RunT.ot0 (x := .v (.bool false)) rfl rfl rfl rfl (.pickF rfl rfl) ?_
        refine RunT.ot0 (x := .v (.bool false)) rfl rfl rfl rfl (.assignX rfl) ?_
        refine RunT.nil ?_
        obtain rfl := si H
        refine T.sub (sub_to (st' := ⟨[(4, .v (.bool false))], [], 8, []⟩) [] (by decide) rfl rfl (⟨⟨_, rfl, .one .v⟩, trivial⟩) (trivial)) ?_
        refine T.ret ?_
        exact RetOk.same [.v (.bool false)] ⟨rfl, trivial⟩ rfl rfl rfl
    · replace H := cf H c31
      refine T.seq ?_
      refine T.sub (sub_pick [5, 9, 10, 46] [0] (st' := ⟨[(5, .ptr 0 0), (9, .v (.int .u64 ((IntKind.u64.wrap a1).tmod 4))), (10, .v (.int .i64 y19)), (46, .v (.int .u64 ((IntKind.u64.wrap a0).tmod 6)))], [(0, some (.box [.v (.int .i64 5), .v (.int .i64 1), .v (.int .i64 4), .v (.int .i64 1), .v (.int .i64 5), .v (.int .i64 3)]))], 216, []⟩) rfl rfl rfl rfl rfl) ?_
      refine T.region ?_
      refine RunT.ot0 (x := .v (.bool (decide (((IntKind.u64.wrap a0).tmod 6) = 2)))) rfl rfl rfl rfl (.bin rfl rfl (fun w => b_eql w) rfl) ?_
      refine RunT.ot0 (x := .v (.bool (decide (((IntKind.u64.wrap a0).tmod 6) = 2)))) rfl rfl rfl rfl (.assignX rfl) ?_
      refine RunT.nil ?_
      refine T.cond2 (t := decide (((IntKind.u64.wrap a0).tmod 6) = 2)) rfl (fun c41 => ?_) (fun c41 => ?_)
      · replace H := ct H c41
        refine T.region ?_
        refine RunT.ot0 (x := .v (.int .i64 y19)) rfl rfl rfl rfl (.moveX rfl) ?_
        refine RunT.ot0 (x := .ptr 0 2) rfl rfl rfl rfl (.fieldPX fl49_2 rfl rfl) ?_
        refine RunT.ot0 (x := .ptr 0 2) rfl rfl rfl rfl (.fieldPX fl23_0 rfl rfl) ?_
        refine RunT.on1 (x := .junk) (p0 := (0, some (.box [.v (.int .i64 5), .v (.int .i64 1), .v (.int .i64 y19), .v (.int .i64 1), .v (.int .i64 5), .v (.int .i64 3)]))) (n' := 224) rfl rfl rfl (.storePX ty3 rfl rfl rfl rfl rfl rfl rfl) rfl ?_
        refine RunT.nil ?_
        refine T.seq ?_
        refine T.region ?_
        refine RunT.ot0 (x := .agg [.v (.int .i64 5), .v (.int .i64 1), .v (.int .i64 y19), .v (.int .i64 1), .v (.int .i64 5), .v (.int .i64 3)]) rfl rfl rfl rfl (.loadP ty49 rfl rfl rfl) ?_
        refine RunT.ot0 (x := .agg [.v (.int .i64 2), .v (.string (⟨#[]⟩ : ByteArray)), .v (.int .i64 5), .v (.int .i64 1), .v (.int .i64 y19), .v (.int .i64 1), .v (.int .i64 5), .v (.int .i64 3), .v (.int .i64 0)]) rfl rfl rfl rfl (.bu bu51 rfl) ?_
        refine RunT.ot1 (x := .ptr 224 0) (p0 := (224, some (.box [.v (.int .i64 0), .v (.string (⟨#[]⟩ : ByteArray)), .v (.int .i64 0), .v (.int .i64 0), .v (.int .i64 0), .v (.int .i64 0), .v (.int .i64 0), .v (.int .i64 0), .v (.int .i64 0)]))) (n' := 232) rfl rfl rfl rfl (.allocX in51.zero rfl rfl) rfl ?_
        refine RunT.on1 (x := .junk) (p0 := (224, some (.box [.v (.int .i64 2), .v (.string (⟨#[]⟩ : ByteArray)), .v (.int .i64 5), .v (.int .i64 1), .v (.int .i64 y19), .v (.int .i64 1), .v (.int .i64 5), .v (.int .i64 3), .v (.int .i64 0)]))) (n' := 240) rfl rfl rfl (.storePX ty51 rfl rfl rfl rfl rfl rfl rfl) rfl ?_
        refine RunT.nil ?_
        refine T.seq ?_
        refine T.region ?_
        refine RunT.ot0 (x := .agg [.v (.int .i64 2), .v (.string (⟨#[]⟩ : ByteArray)), .v (.int .i64 5), .v (.int .i64 1), .v (.int .i64 y19), .v (.int .i64 1), .v (.int .i64 5), .v (.int .i64 3), .v (.int .i64 0)]) rfl rfl rfl rfl (.loadP ty51 rfl rfl rfl) ?_
        obtain ⟨r42, h43, H⟩ := bs H
        refine RunT.ot0 (x := .tup [.lst (List.map eU8 r42.1), .v (.int .i64 r42.2)]) rfl rfl rfl rfl (.callp (PC.frozen (record_Put_pc false k (Record.mk 2 (⟨#[]⟩ : ByteArray) (Order.mk 5 1 (Party.mk y19 1) 5 3) 0) r42 h43)) rfl ⟨(.agg' ⟨.v, .v, .v, .v, .v, .v, .v, .v, .v, trivial⟩), trivial⟩ rfl rfl rfl) ?_
        refine RunT.ot0 (x := .tup [.lst (List.map eU8 r42.1), .v (.int .i64 r42.2)]) rfl rfl rfl rfl (.moveX rfl) ?_
        refine RunT.ot0 (x := .lst (List.map eU8 r42.1)) rfl rfl rfl rfl (.extract rfl rfl) ?_
        refine RunT.ot0 (x := .v (.int .i64 r42.2)) rfl rfl rfl rfl (.extract rfl rfl) ?_
        refine RunT.ot0 (x := .lst (List.map eU8 r42.1)) rfl rfl rfl rfl (.assignX rfl) ?_
        refine RunT.ot0 (x := .v (.int .i64 r42.2)) rfl rfl rfl rfl (.assignX rfl) ?_
        refine RunT.nil ?_
        refine T.seq ?_
        refine T.sub (sub_pick [9, 11, 12, 13] [224] (st' := ⟨[(9, .v (.int .u64 ((IntKind.u64.wrap a1).tmod 4))), (11, .ptr 224 0), (12, .lst (List.map eU8 r42.1)), (13, .v (.int .i64 r42.2))], [(224, some (.box [.v (.int .i64 2), .v (.string (⟨#[]⟩ : ByteArray)), .v (.int .i64 5), .v (.int .i64 1), .v (.int .i64 y19), .v (.int .i64 1), .v (.int .i64 5), .v (.int .i64 3), .v (.int .i64 0)]))], 240, []⟩) rfl rfl rfl rfl rfl) ?_
        refine T.region ?_
        obtain ⟨r44, h45, H⟩ := bs H
        refine RunT.ot0 (x := .v (.bool r44)) rfl rfl rfl rfl (.callp (law22_told_pc false k  r44 h45) rfl trivial rfl rfl rfl) ?_
        refine RunT.ot0 (x := .v (.bool r44)) rfl rfl rfl rfl (.moveX rfl) ?_
        refine RunT.cases (t := 79) (c := r44) rfl (fun g46 => ?_) (fun g46 => ?_)
        · replace H := ct H g46
          refine RunT.gt0 (x := .agg [.v (.int .i64 2), .v (.string (⟨#[]⟩ : ByteArray)), .v (.int .i64 5), .v (.int .i64 1), .v (.int .i64 y19), .v (.int .i64 1), .v (.int .i64 5), .v (.int .i64 3), .v (.int .i64 0)]) rfl rfl rfl (bo g46) rfl rfl (.loadP ty51 rfl rfl rfl) ?_
          obtain ⟨r47, h48, H⟩ := bs H
          refine RunT.gt0 (x := .v (.bool r47)) rfl rfl rfl (bo g46) rfl rfl (.callp (record_May_pc false k (Record.mk 2 (⟨#[]⟩ : ByteArray) (Order.mk 5 1 (Party.mk y19 1) 5 3) 0) r47 h48) rfl ⟨(.agg' ⟨.v, .v, .v, .v, .v, .v, .v, .v, .v, trivial⟩), trivial⟩ rfl rfl rfl) ?_
          refine RunT.gt0 (x := .v (.int .u64 ((IntKind.u64.wrap a1).tmod 4))) rfl rfl rfl (bo g46) rfl rfl (.moveX rfl) ?_
          refine RunT.gt0 (x := .v (.bool (decide (((IntKind.u64.wrap a1).tmod 4) < 2)))) rfl rfl rfl (bo g46) rfl rfl (.bin rfl rfl (fun w => b_lss w) rfl) ?_
          refine RunT.gt0 (x := .v (.bool (r47 == (decide (((IntKind.u64.wrap a1).tmod 4) < 2))))) rfl rfl rfl (bo g46) rfl rfl (.bin rfl rfl (fun w => b_eqB w Try.underlying4) rfl) ?_
          refine RunT.ot0 (x := .v (.bool (r47 == (decide (((IntKind.u64.wrap a1).tmod 4) < 2))))) rfl rfl rfl rfl (.pickT (bo g46) rfl) ?_
          refine RunT.ot0 (x := .v (.bool (r47 == (decide (((IntKind.u64.wrap a1).tmod 4) < 2))))) rfl rfl rfl rfl (.moveX rfl) ?_
          refine RunT.cases (t := 86) (c := r47 == (decide (((IntKind.u64.wrap a1).tmod 4) < 2))) rfl (fun g49 => ?_) (fun g49 => ?_)
          · replace H := ct H g49
            refine RunT.gt0 (x := .v (.int .i64 r42.2)) rfl rfl rfl (bo g49) rfl rfl (.moveX rfl) ?_
            refine RunT.gt0 (x := .v (.bool (decide (r42.2 = 0)))) rfl rfl rfl (bo g49) rfl rfl (.bin rfl rfl (fun w => b_eql w) rfl) ?_
            refine RunT.gt0 (x := .v (.int .u64 ((IntKind.u64.wrap a1).tmod 4))) rfl rfl rfl (bo g49) rfl rfl (.moveX rfl) ?_
            refine RunT.gt0 (x := .v (.bool (decide (((IntKind.u64.wrap a1).tmod 4) < 2)))) rfl rfl rfl (bo g49) rfl rfl (.bin rfl rfl (fun w => b_lss w) rfl) ?_
            refine RunT.gt0 (x := .v (.bool ((decide (r42.2 = 0)) == (decide (((IntKind.u64.wrap a1).tmod 4) < 2))))) rfl rfl rfl (bo g49) rfl rfl (.bin rfl rfl (fun w => b_eqB w Try.underlying4) rfl) ?_
            refine RunT.ot0 (x := .v (.bool ((decide (r42.2 = 0)) == (decide (((IntKind.u64.wrap a1).tmod 4) < 2))))) rfl rfl rfl rfl (.pickT (bo g49) rfl) ?_
            refine RunT.ot0 (x := .v (.bool ((decide (r42.2 = 0)) == (decide (((IntKind.u64.wrap a1).tmod 4) < 2))))) rfl rfl rfl rfl (.moveX rfl) ?_
            refine RunT.cases (t := 93) (c := (decide (r42.2 = 0)) == (decide (((IntKind.u64.wrap a1).tmod 4) < 2))) rfl (fun g50 => ?_) (fun g50 => ?_)
            · replace H := ct H g50
              refine RunT.gt0 (x := .lst (List.map eU8 r42.1)) rfl rfl rfl (bo g50) rfl rfl (.moveX rfl) ?_
              refine RunT.gt0 (x := .v (.int .i64 (r42.1.length : Int))) rfl rfl rfl (bo g50) rfl rfl (.lenLm Try.underlying35 rfl rfl) ?_
              refine RunT.gt0 (x := .v (.bool (decide ((r42.1.length : Int) = 20)))) rfl rfl rfl (bo g50) rfl rfl (.bin rfl rfl (fun w => b_eql w) rfl) ?_
              refine RunT.gt0 (x := .v (.int .u64 ((IntKind.u64.wrap a1).tmod 4))) rfl rfl rfl (bo g50) rfl rfl (.moveX rfl) ?_
              refine RunT.gt0 (x := .v (.bool (decide (((IntKind.u64.wrap a1).tmod 4) < 2)))) rfl rfl rfl (bo g50) rfl rfl (.bin rfl rfl (fun w => b_lss w) rfl) ?_
              refine RunT.gt0 (x := .v (.bool ((decide ((r42.1.length : Int) = 20)) == (decide (((IntKind.u64.wrap a1).tmod 4) < 2))))) rfl rfl rfl (bo g50) rfl rfl (.bin rfl rfl (fun w => b_eqB w Try.underlying4) rfl) ?_
              refine RunT.ot0 (x := .v (.bool ((decide ((r42.1.length : Int) = 20)) == (decide (((IntKind.u64.wrap a1).tmod 4) < 2))))) rfl rfl rfl rfl (.pickT (bo g50) rfl) ?_
              refine RunT.ot0 (x := .v (.bool ((decide ((r42.1.length : Int) = 20)) == (decide (((IntKind.u64.wrap a1).tmod 4) < 2))))) rfl rfl rfl rfl (.assignX rfl) ?_
              refine RunT.nil ?_
              obtain rfl := si H
              refine T.sub (sub_to (st' := ⟨[(4, .v (.bool ((decide ((r42.1.length : Int) = 20)) == (decide (((IntKind.u64.wrap a1).tmod 4) < 2)))))], [], 8, []⟩) [] (by decide) rfl rfl (⟨⟨_, rfl, .one .v⟩, trivial⟩) (trivial)) ?_
              refine T.ret ?_
              exact RetOk.same [.v (.bool ((decide ((r42.1.length : Int) = 20)) == (decide (((IntKind.u64.wrap a1).tmod 4) < 2))))] ⟨rfl, trivial⟩ rfl rfl rfl
            · replace H := cf H g50
              refine RunT.xn rfl rfl rfl (bo g50) rfl rfl ?_
              refine RunT.xn rfl rfl rfl (bo g50) rfl rfl ?_
              refine RunT.xn rfl rfl rfl (bo g50) rfl rfl ?_
              refine RunT.xn rfl rfl rfl (bo g50) rfl rfl ?_
              refine RunT.xn rfl rfl rfl (bo g50) rfl rfl ?_
              refine RunT.xn rfl rfl rfl (bo g50) rfl rfl ?_
              refine RunT.ot0 (x := .v (.bool false)) rfl rfl rfl rfl (.pickF (bo g50) rfl) ?_
              refine RunT.ot0 (x := .v (.bool false)) rfl rfl rfl rfl (.assignX rfl) ?_
              refine RunT.nil ?_
              obtain rfl := si H
              refine T.sub (sub_to (st' := ⟨[(4, .v (.bool false))], [], 8, []⟩) [] (by decide) rfl rfl (⟨⟨_, rfl, .one .v⟩, trivial⟩) (trivial)) ?_
              refine T.ret ?_
              exact RetOk.same [.v (.bool false)] ⟨rfl, trivial⟩ rfl rfl rfl
          · replace H := cf H g49
            refine RunT.xn rfl rfl rfl (bo g49) rfl rfl ?_
            refine RunT.xn rfl rfl rfl (bo g49) rfl rfl ?_
            refine RunT.xn rfl rfl rfl (bo g49) rfl rfl ?_
            refine RunT.xn rfl rfl rfl (bo g49) rfl rfl ?_
            refine RunT.xn rfl rfl rfl (bo g49) rfl rfl ?_
            refine RunT.ot0 (x := .v (.bool false)) rfl rfl rfl rfl (.pickF (bo g49) rfl) ?_
            refine RunT.ot0 (x := .v (.bool false)) rfl rfl rfl rfl (.moveX rfl) ?_
            refine RunT.xn rfl rfl rfl rfl rfl rfl ?_
            refine RunT.xn rfl rfl rfl rfl rfl rfl ?_
            refine RunT.xn rfl rfl rfl rfl rfl rfl ?_
            refine RunT.xn rfl rfl rfl rfl rfl rfl ?_
            refine RunT.xn rfl rfl rfl rfl rfl rfl ?_
            refine RunT.xn rfl rfl rfl rfl rfl rfl ?_
            refine RunT.ot0 (x := .v (.bool false)) rfl rfl rfl rfl (.pickF rfl rfl) ?_
            refine RunT.ot0 (x := .v (.bool false)) rfl rfl rfl rfl (.assignX rfl) ?_
            refine RunT.nil ?_
            obtain rfl := si H
            refine T.sub (sub_to (st' := ⟨[(4, .v (.bool false))], [], 8, []⟩) [] (by decide) rfl rfl (⟨⟨_, rfl, .one .v⟩, trivial⟩) (trivial)) ?_
            refine T.ret ?_
            exact RetOk.same [.v (.bool false)] ⟨rfl, trivial⟩ rfl rfl rfl
        · replace H := cf H g46
          refine RunT.xn rfl rfl rfl (bo g46) rfl rfl ?_
          refine RunT.xn rfl rfl rfl (bo g46) rfl rfl ?_
          refine RunT.xn rfl rfl rfl (bo g46) rfl rfl ?_
          refine RunT.xn rfl rfl rfl (bo g46) rfl rfl ?_
          refine RunT.xn rfl rfl rfl (bo g46) rfl rfl ?_
          refine RunT.ot0 (x := .v (.bool false)) rfl rfl rfl rfl (.pickF (bo g46) rfl) ?_
          refine RunT.ot0 (x := .v (.bool false)) rfl rfl rfl rfl (.moveX rfl) ?_
          refine RunT.xn rfl rfl rfl rfl rfl rfl ?_
          refine RunT.xn rfl rfl rfl rfl rfl rfl ?_
          refine RunT.xn rfl rfl rfl rfl rfl rfl ?_
          refine RunT.xn rfl rfl rfl rfl rfl rfl ?_
          refine RunT.xn rfl rfl rfl rfl rfl rfl ?_
          refine RunT.ot0 (x := .v (.bool false)) rfl rfl rfl rfl (.pickF rfl rfl) ?_
          refine RunT.ot0 (x := .v (.bool false)) rfl rfl rfl rfl (.moveX rfl) ?_
          refine RunT.xn rfl rfl rfl rfl rfl rfl ?_
          refine RunT.xn rfl rfl rfl rfl rfl rfl ?_
          refine RunT.xn rfl rfl rfl rfl rfl rfl ?_
          refine RunT.xn rfl rfl rfl rfl rfl rfl ?_
          refine RunT.xn rfl rfl rfl rfl rfl rfl ?_
          refine RunT.xn rfl rfl rfl rfl rfl rfl ?_
          refine RunT.ot0 (x := .v (.bool false)) rfl rfl rfl rfl (.pickF rfl rfl) ?_
          refine RunT.ot0 (x := .v (.bool false)) rfl rfl rfl rfl (.assignX rfl) ?_
          refine RunT.nil ?_
          obtain rfl := si H
          refine T.sub (sub_to (st' := ⟨[(4, .v (.bool false))], [], 8, []⟩) [] (by decide) rfl rfl (⟨⟨_, rfl, .one .v⟩, trivial⟩) (trivial)) ?_
          refine T.ret ?_
          exact RetOk.same [.v (.bool false)] ⟨rfl, trivial⟩ rfl rfl rfl
      · replace H := cf H c41
        refine T.seq ?_
        refine T.sub (sub_pick [5, 9, 10, 46] [0] (st' := ⟨[(5, .ptr 0 0), (9, .v (.int .u64 ((IntKind.u64.wrap a1).tmod 4))), (10, .v (.int .i64 y19)), (46, .v (.int .u64 ((IntKind.u64.wrap a0).tmod 6)))], [(0, some (.box [.v (.int .i64 5), .v (.int .i64 1), .v (.int .i64 4), .v (.int .i64 1), .v (.int .i64 5), .v (.int .i64 3)]))], 216, []⟩) rfl rfl rfl rfl rfl) ?_
        refine T.region ?_
        refine RunT.ot0 (x := .v (.bool (decide (((IntKind.u64.wrap a0).tmod 6) = 3)))) rfl rfl rfl rfl (.bin rfl rfl (fun w => b_eql w) rfl) ?_
        refine RunT.ot0 (x := .v (.bool (decide (((IntKind.u64.wrap a0).tmod 6) = 3)))) rfl rfl rfl rfl (.assignX rfl) ?_
        refine RunT.nil ?_
        refine T.cond2 (t := decide (((IntKind.u64.wrap a0).tmod 6) = 3)) rfl (fun c51 => ?_) (fun c51 => ?_)
        · replace H := ct H c51
          refine T.region ?_
          refine RunT.ot0 (x := .v (.int .i64 y19)) rfl rfl rfl rfl (.moveX rfl) ?_
          refine RunT.ot0 (x := .ptr 0 2) rfl rfl rfl rfl (.fieldPX fl49_2 rfl rfl) ?_
          refine RunT.ot0 (x := .ptr 0 3) rfl rfl rfl rfl (.fieldPX fl23_1 rfl rfl) ?_
          refine RunT.on1 (x := .junk) (p0 := (0, some (.box [.v (.int .i64 5), .v (.int .i64 1), .v (.int .i64 4), .v (.int .i64 y19), .v (.int .i64 5), .v (.int .i64 3)]))) (n' := 224) rfl rfl rfl (.storePX ty3 rfl rfl rfl rfl rfl rfl rfl) rfl ?_
          refine RunT.nil ?_
          refine T.seq ?_
          refine T.region ?_
          refine RunT.ot0 (x := .agg [.v (.int .i64 5), .v (.int .i64 1), .v (.int .i64 4), .v (.int .i64 y19), .v (.int .i64 5), .v (.int .i64 3)]) rfl rfl rfl rfl (.loadP ty49 rfl rfl rfl) ?_
          refine RunT.ot0 (x := .agg [.v (.int .i64 2), .v (.string (⟨#[]⟩ : ByteArray)), .v (.int .i64 5), .v (.int .i64 1), .v (.int .i64 4), .v (.int .i64 y19), .v (.int .i64 5), .v (.int .i64 3), .v (.int .i64 0)]) rfl rfl rfl rfl (.bu bu51 rfl) ?_
          refine RunT.ot1 (x := .ptr 224 0) (p0 := (224, some (.box [.v (.int .i64 0), .v (.string (⟨#[]⟩ : ByteArray)), .v (.int .i64 0), .v (.int .i64 0), .v (.int .i64 0), .v (.int .i64 0), .v (.int .i64 0), .v (.int .i64 0), .v (.int .i64 0)]))) (n' := 232) rfl rfl rfl rfl (.allocX in51.zero rfl rfl) rfl ?_
          refine RunT.on1 (x := .junk) (p0 := (224, some (.box [.v (.int .i64 2), .v (.string (⟨#[]⟩ : ByteArray)), .v (.int .i64 5), .v (.int .i64 1), .v (.int .i64 4), .v (.int .i64 y19), .v (.int .i64 5), .v (.int .i64 3), .v (.int .i64 0)]))) (n' := 240) rfl rfl rfl (.storePX ty51 rfl rfl rfl rfl rfl rfl rfl) rfl ?_
          refine RunT.nil ?_
          refine T.seq ?_
          refine T.region ?_
          refine RunT.ot0 (x := .agg [.v (.int .i64 2), .v (.string (⟨#[]⟩ : ByteArray)), .v (.int .i64 5), .v (.int .i64 1), .v (.int .i64 4), .v (.int .i64 y19), .v (.int .i64 5), .v (.int .i64 3), .v (.int .i64 0)]) rfl rfl rfl rfl (.loadP ty51 rfl rfl rfl) ?_
          obtain ⟨r52, h53, H⟩ := bs H
          refine RunT.ot0 (x := .tup [.lst (List.map eU8 r52.1), .v (.int .i64 r52.2)]) rfl rfl rfl rfl (.callp (PC.frozen (record_Put_pc false k (Record.mk 2 (⟨#[]⟩ : ByteArray) (Order.mk 5 1 (Party.mk 4 y19) 5 3) 0) r52 h53)) rfl ⟨(.agg' ⟨.v, .v, .v, .v, .v, .v, .v, .v, .v, trivial⟩), trivial⟩ rfl rfl rfl) ?_
          refine RunT.ot0 (x := .tup [.lst (List.map eU8 r52.1), .v (.int .i64 r52.2)]) rfl rfl rfl rfl (.moveX rfl) ?_
          refine RunT.ot0 (x := .lst (List.map eU8 r52.1)) rfl rfl rfl rfl (.extract rfl rfl) ?_
          refine RunT.ot0 (x := .v (.int .i64 r52.2)) rfl rfl rfl rfl (.extract rfl rfl) ?_
          refine RunT.ot0 (x := .lst (List.map eU8 r52.1)) rfl rfl rfl rfl (.assignX rfl) ?_
          refine RunT.ot0 (x := .v (.int .i64 r52.2)) rfl rfl rfl rfl (.assignX rfl) ?_
          refine RunT.nil ?_
          refine T.seq ?_
          refine T.sub (sub_pick [9, 11, 12, 13] [224] (st' := ⟨[(9, .v (.int .u64 ((IntKind.u64.wrap a1).tmod 4))), (11, .ptr 224 0), (12, .lst (List.map eU8 r52.1)), (13, .v (.int .i64 r52.2))], [(224, some (.box [.v (.int .i64 2), .v (.string (⟨#[]⟩ : ByteArray)), .v (.int .i64 5), .v (.int .i64 1), .v (.int .i64 4), .v (.int .i64 y19), .v (.int .i64 5), .v (.int .i64 3), .v (.int .i64 0)]))], 240, []⟩) rfl rfl rfl rfl rfl) ?_
          refine T.region ?_
          obtain ⟨r54, h55, H⟩ := bs H
          refine RunT.ot0 (x := .v (.bool r54)) rfl rfl rfl rfl (.callp (law22_told_pc false k  r54 h55) rfl trivial rfl rfl rfl) ?_
          refine RunT.ot0 (x := .v (.bool r54)) rfl rfl rfl rfl (.moveX rfl) ?_
          refine RunT.cases (t := 79) (c := r54) rfl (fun g56 => ?_) (fun g56 => ?_)
          · replace H := ct H g56
            refine RunT.gt0 (x := .agg [.v (.int .i64 2), .v (.string (⟨#[]⟩ : ByteArray)), .v (.int .i64 5), .v (.int .i64 1), .v (.int .i64 4), .v (.int .i64 y19), .v (.int .i64 5), .v (.int .i64 3), .v (.int .i64 0)]) rfl rfl rfl (bo g56) rfl rfl (.loadP ty51 rfl rfl rfl) ?_
            obtain ⟨r57, h58, H⟩ := bs H
            refine RunT.gt0 (x := .v (.bool r57)) rfl rfl rfl (bo g56) rfl rfl (.callp (record_May_pc false k (Record.mk 2 (⟨#[]⟩ : ByteArray) (Order.mk 5 1 (Party.mk 4 y19) 5 3) 0) r57 h58) rfl ⟨(.agg' ⟨.v, .v, .v, .v, .v, .v, .v, .v, .v, trivial⟩), trivial⟩ rfl rfl rfl) ?_
            refine RunT.gt0 (x := .v (.int .u64 ((IntKind.u64.wrap a1).tmod 4))) rfl rfl rfl (bo g56) rfl rfl (.moveX rfl) ?_
            refine RunT.gt0 (x := .v (.bool (decide (((IntKind.u64.wrap a1).tmod 4) < 2)))) rfl rfl rfl (bo g56) rfl rfl (.bin rfl rfl (fun w => b_lss w) rfl) ?_
            refine RunT.gt0 (x := .v (.bool (r57 == (decide (((IntKind.u64.wrap a1).tmod 4) < 2))))) rfl rfl rfl (bo g56) rfl rfl (.bin rfl rfl (fun w => b_eqB w Try.underlying4) rfl) ?_
            refine RunT.ot0 (x := .v (.bool (r57 == (decide (((IntKind.u64.wrap a1).tmod 4) < 2))))) rfl rfl rfl rfl (.pickT (bo g56) rfl) ?_
            refine RunT.ot0 (x := .v (.bool (r57 == (decide (((IntKind.u64.wrap a1).tmod 4) < 2))))) rfl rfl rfl rfl (.moveX rfl) ?_
            refine RunT.cases (t := 86) (c := r57 == (decide (((IntKind.u64.wrap a1).tmod 4) < 2))) rfl (fun g59 => ?_) (fun g59 => ?_)
            · replace H := ct H g59
              refine RunT.gt0 (x := .v (.int .i64 r52.2)) rfl rfl rfl (bo g59) rfl rfl (.moveX rfl) ?_
              refine RunT.gt0 (x := .v (.bool (decide (r52.2 = 0)))) rfl rfl rfl (bo g59) rfl rfl (.bin rfl rfl (fun w => b_eql w) rfl) ?_
              refine RunT.gt0 (x := .v (.int .u64 ((IntKind.u64.wrap a1).tmod 4))) rfl rfl rfl (bo g59) rfl rfl (.moveX rfl) ?_
              refine RunT.gt0 (x := .v (.bool (decide (((IntKind.u64.wrap a1).tmod 4) < 2)))) rfl rfl rfl (bo g59) rfl rfl (.bin rfl rfl (fun w => b_lss w) rfl) ?_
              refine RunT.gt0 (x := .v (.bool ((decide (r52.2 = 0)) == (decide (((IntKind.u64.wrap a1).tmod 4) < 2))))) rfl rfl rfl (bo g59) rfl rfl (.bin rfl rfl (fun w => b_eqB w Try.underlying4) rfl) ?_
              refine RunT.ot0 (x := .v (.bool ((decide (r52.2 = 0)) == (decide (((IntKind.u64.wrap a1).tmod 4) < 2))))) rfl rfl rfl rfl (.pickT (bo g59) rfl) ?_
              refine RunT.ot0 (x := .v (.bool ((decide (r52.2 = 0)) == (decide (((IntKind.u64.wrap a1).tmod 4) < 2))))) rfl rfl rfl rfl (.moveX rfl) ?_
              refine RunT.cases (t := 93) (c := (decide (r52.2 = 0)) == (decide (((IntKind.u64.wrap a1).tmod 4) < 2))) rfl (fun g60 => ?_) (fun g60 => ?_)
              · replace H := ct H g60
                refine RunT.gt0 (x := .lst (List.map eU8 r52.1)) rfl rfl rfl (bo g60) rfl rfl (.moveX rfl) ?_
                refine RunT.gt0 (x := .v (.int .i64 (r52.1.length : Int))) rfl rfl rfl (bo g60) rfl rfl (.lenLm Try.underlying35 rfl rfl) ?_
                refine RunT.gt0 (x := .v (.bool (decide ((r52.1.length : Int) = 20)))) rfl rfl rfl (bo g60) rfl rfl (.bin rfl rfl (fun w => b_eql w) rfl) ?_
                refine RunT.gt0 (x := .v (.int .u64 ((IntKind.u64.wrap a1).tmod 4))) rfl rfl rfl (bo g60) rfl rfl (.moveX rfl) ?_
                refine RunT.gt0 (x := .v (.bool (decide (((IntKind.u64.wrap a1).tmod 4) < 2)))) rfl rfl rfl (bo g60) rfl rfl (.bin rfl rfl (fun w => b_lss w) rfl) ?_
                refine RunT.gt0 (x := .v (.bool ((decide ((r52.1.length : Int) = 20)) == (decide (((IntKind.u64.wrap a1).tmod 4) < 2))))) rfl rfl rfl (bo g60) rfl rfl (.bin rfl rfl (fun w => b_eqB w Try.underlying4) rfl) ?_
                refine RunT.ot0 (x := .v (.bool ((decide ((r52.1.length : Int) = 20)) == (decide (((IntKind.u64.wrap a1).tmod 4) < 2))))) rfl rfl rfl rfl (.pickT (bo g60) rfl) ?_
                refine RunT.ot0 (x := .v (.bool ((decide ((r52.1.length : Int) = 20)) == (decide (((IntKind.u64.wrap a1).tmod 4) < 2))))) rfl rfl rfl rfl (.assignX rfl) ?_
                refine RunT.nil ?_
                obtain rfl := si H
                refine T.sub (sub_to (st' := ⟨[(4, .v (.bool ((decide ((r52.1.length : Int) = 20)) == (decide (((IntKind.u64.wrap a1).tmod 4) < 2)))))], [], 8, []⟩) [] (by decide) rfl rfl (⟨⟨_, rfl, .one .v⟩, trivial⟩) (trivial)) ?_
                refine T.ret ?_
                exact RetOk.same [.v (.bool ((decide ((r52.1.length : Int) = 20)) == (decide (((IntKind.u64.wrap a1).tmod 4) < 2))))] ⟨rfl, trivial⟩ rfl rfl rfl
              · replace H := cf H g60
                refine RunT.xn rfl rfl rfl (bo g60) rfl rfl ?_
                refine RunT.xn rfl rfl rfl (bo g60) rfl rfl ?_
                refine RunT.xn rfl rfl rfl (bo g60) rfl rfl ?_
                refine RunT.xn rfl rfl rfl (bo g60) rfl rfl ?_
                refine RunT.xn rfl rfl rfl (bo g60) rfl rfl ?_
                refine RunT.xn rfl rfl rfl (bo g60) rfl rfl ?_
                refine RunT.ot0 (x := .v (.bool false)) rfl rfl rfl rfl (.pickF (bo g60) rfl) ?_
                refine RunT.ot0 (x := .v (.bool false)) rfl rfl rfl rfl (.assignX rfl) ?_
                refine RunT.nil ?_
                obtain rfl := si H
                refine T.sub (sub_to (st' := ⟨[(4, .v (.bool false))], [], 8, []⟩) [] (by decide) rfl rfl (⟨⟨_, rfl, .one .v⟩, trivial⟩) (trivial)) ?_
                refine T.ret ?_
                exact RetOk.same [.v (.bool false)] ⟨rfl, trivial⟩ rfl rfl rfl
            · replace H := cf H g59
              refine RunT.xn rfl rfl rfl (bo g59) rfl rfl ?_
              refine RunT.xn rfl rfl rfl (bo g59) rfl rfl ?_
              refine RunT.xn rfl rfl rfl (bo g59) rfl rfl ?_
              refine RunT.xn rfl rfl rfl (bo g59) rfl rfl ?_
              refine RunT.xn rfl rfl rfl (bo g59) rfl rfl ?_
              refine RunT.ot0 (x := .v (.bool false)) rfl rfl rfl rfl (.pickF (bo g59) rfl) ?_
              refine RunT.ot0 (x := .v (.bool false)) rfl rfl rfl rfl (.moveX rfl) ?_
              refine RunT.xn rfl rfl rfl rfl rfl rfl ?_
              refine RunT.xn rfl rfl rfl rfl rfl rfl ?_
              refine RunT.xn rfl rfl rfl rfl rfl rfl ?_
              refine RunT.xn rfl rfl rfl rfl rfl rfl ?_
              refine RunT.xn rfl rfl rfl rfl rfl rfl ?_
              refine RunT.xn rfl rfl rfl rfl rfl rfl ?_
              refine RunT.ot0 (x := .v (.bool false)) rfl rfl rfl rfl (.pickF rfl rfl) ?_
              refine RunT.ot0 (x := .v (.bool false)) rfl rfl rfl rfl (.assignX rfl) ?_
              refine RunT.nil ?_
              obtain rfl := si H
              refine T.sub (sub_to (st' := ⟨[(4, .v (.bool false))], [], 8, []⟩) [] (by decide) rfl rfl (⟨⟨_, rfl, .one .v⟩, trivial⟩) (trivial)) ?_
              refine T.ret ?_
              exact RetOk.same [.v (.bool false)] ⟨rfl, trivial⟩ rfl rfl rfl
          · replace H := cf H g56
            refine RunT.xn rfl rfl rfl (bo g56) rfl rfl ?_
            refine RunT.xn rfl rfl rfl (bo g56) rfl rfl ?_
            refine RunT.xn rfl rfl rfl (bo g56) rfl rfl ?_
            refine RunT.xn rfl rfl rfl (bo g56) rfl rfl ?_
            refine RunT.xn rfl rfl rfl (bo g56) rfl rfl ?_
            refine RunT.ot0 (x := .v (.bool false)) rfl rfl rfl rfl (.pickF (bo g56) rfl) ?_
            refine RunT.ot0 (x := .v (.bool false)) rfl rfl rfl rfl (.moveX rfl) ?_
            refine RunT.xn rfl rfl rfl rfl rfl rfl ?_
            refine RunT.xn rfl rfl rfl rfl rfl rfl ?_
            refine RunT.xn rfl rfl rfl rfl rfl rfl ?_
            refine RunT.xn rfl rfl rfl rfl rfl rfl ?_
            refine RunT.xn rfl rfl rfl rfl rfl rfl ?_
            refine RunT.ot0 (x := .v (.bool false)) rfl rfl rfl rfl (.pickF rfl rfl) ?_
            refine RunT.ot0 (x := .v (.bool false)) rfl rfl rfl rfl (.moveX rfl) ?_
            refine RunT.xn rfl rfl rfl rfl rfl rfl ?_
            refine RunT.xn rfl rfl rfl rfl rfl rfl ?_
            refine RunT.xn rfl rfl rfl rfl rfl rfl ?_
            refine RunT.xn rfl rfl rfl rfl rfl rfl ?_
            refine RunT.xn rfl rfl rfl rfl rfl rfl ?_
            refine RunT.xn rfl rfl rfl rfl rfl rfl ?_
            refine RunT.ot0 (x := .v (.bool false)) rfl rfl rfl rfl (.pickF rfl rfl) ?_
            refine RunT.ot0 (x := .v (.bool false)) rfl rfl rfl rfl (.assignX rfl) ?_
            refine RunT.nil ?_
            obtain rfl := si H
            refine T.sub (sub_to (st' := ⟨[(4, .v (.bool false))], [], 8, []⟩) [] (by decide) rfl rfl (⟨⟨_, rfl, .one .v⟩, trivial⟩) (trivial)) ?_
            refine T.ret ?_
            exact RetOk.same [.v (.bool false)] ⟨rfl, trivial⟩ rfl rfl rfl
        · replace H := cf H c51
          refine T.seq ?_
          refine T.sub (sub_pick [5, 9, 10, 46] [0] (st' := ⟨[(5, .ptr 0 0), (9, .v (.int .u64 ((IntKind.u64.wrap a1).tmod 4))), (10, .v (.int .i64 y19)), (46, .v (.int .u64 ((IntKind.u64.wrap a0).tmod 6)))], [(0, some (.box [.v (.int .i64 5), .v (.int .i64 1), .v (.int .i64 4), .v (.int .i64 1), .v (.int .i64 5), .v (.int .i64 3)]))], 216, []⟩) rfl rfl rfl rfl rfl) ?_
          refine T.region ?_
          refine RunT.ot0 (x := .v (.bool (decide (((IntKind.u64.wrap a0).tmod 6) = 4)))) rfl rfl rfl rfl (.bin rfl rfl (fun w => b_eql w) rfl) ?_
          refine RunT.ot0 (x := .v (.bool (decide (((IntKind.u64.wrap a0).tmod 6) = 4)))) rfl rfl rfl rfl (.assignX rfl) ?_
          refine RunT.nil ?_
          refine T.cond2 (t := decide (((IntKind.u64.wrap a0).tmod 6) = 4)) rfl (fun c61 => ?_) (fun c61 => ?_)
          · replace H := ct H c61
            refine T.region ?_
            refine RunT.ot0 (x := .v (.int .i64 y19)) rfl rfl rfl rfl (.moveX rfl) ?_
            refine RunT.ot0 (x := .ptr 0 4) rfl rfl rfl rfl (.fieldPX fl49_3 rfl rfl) ?_
            refine RunT.on1 (x := .junk) (p0 := (0, some (.box [.v (.int .i64 5), .v (.int .i64 1), .v (.int .i64 4), .v (.int .i64 1), .v (.int .i64 y19), .v (.int .i64 3)]))) (n' := 224) rfl rfl rfl (.storePX ty2 rfl rfl rfl rfl rfl rfl rfl) rfl ?_
            refine RunT.nil ?_
            refine T.seq ?_
            refine T.region ?_
            refine RunT.ot0 (x := .agg [.v (.int .i64 5), .v (.int .i64 1), .v (.int .i64 4), .v (.int .i64 1), .v (.int .i64 y19), .v (.int .i64 3)]) rfl rfl rfl rfl (.loadP ty49 rfl rfl rfl) ?_
            refine RunT.ot0 (x := .agg [.v (.int .i64 2), .v (.string (⟨#[]⟩ : ByteArray)), .v (.int .i64 5), .v (.int .i64 1), .v (.int .i64 4), .v (.int .i64 1), .v (.int .i64 y19), .v (.int .i64 3), .v (.int .i64 0)]) rfl rfl rfl rfl (.bu bu51 rfl) ?_
            refine RunT.ot1 (x := .ptr 224 0) (p0 := (224, some (.box [.v (.int .i64 0), .v (.string (⟨#[]⟩ : ByteArray)), .v (.int .i64 0), .v (.int .i64 0), .v (.int .i64 0), .v (.int .i64 0), .v (.int .i64 0), .v (.int .i64 0), .v (.int .i64 0)]))) (n' := 232) rfl rfl rfl rfl (.allocX in51.zero rfl rfl) rfl ?_
            refine RunT.on1 (x := .junk) (p0 := (224, some (.box [.v (.int .i64 2), .v (.string (⟨#[]⟩ : ByteArray)), .v (.int .i64 5), .v (.int .i64 1), .v (.int .i64 4), .v (.int .i64 1), .v (.int .i64 y19), .v (.int .i64 3), .v (.int .i64 0)]))) (n' := 240) rfl rfl rfl (.storePX ty51 rfl rfl rfl rfl rfl rfl rfl) rfl ?_
            refine RunT.nil ?_
            refine T.seq ?_
            refine T.region ?_
            refine RunT.ot0 (x := .agg [.v (.int .i64 2), .v (.string (⟨#[]⟩ : ByteArray)), .v (.int .i64 5), .v (.int .i64 1), .v (.int .i64 4), .v (.int .i64 1), .v (.int .i64 y19), .v (.int .i64 3), .v (.int .i64 0)]) rfl rfl rfl rfl (.loadP ty51 rfl rfl rfl) ?_
            obtain ⟨r62, h63, H⟩ := bs H
            refine RunT.ot0 (x := .tup [.lst (List.map eU8 r62.1), .v (.int .i64 r62.2)]) rfl rfl rfl rfl (.callp (PC.frozen (record_Put_pc false k (Record.mk 2 (⟨#[]⟩ : ByteArray) (Order.mk 5 1 (Party.mk 4 1) y19 3) 0) r62 h63)) rfl ⟨(.agg' ⟨.v, .v, .v, .v, .v, .v, .v, .v, .v, trivial⟩), trivial⟩ rfl rfl rfl) ?_
            refine RunT.ot0 (x := .tup [.lst (List.map eU8 r62.1), .v (.int .i64 r62.2)]) rfl rfl rfl rfl (.moveX rfl) ?_
            refine RunT.ot0 (x := .lst (List.map eU8 r62.1)) rfl rfl rfl rfl (.extract rfl rfl) ?_
            refine RunT.ot0 (x := .v (.int .i64 r62.2)) rfl rfl rfl rfl (.extract rfl rfl) ?_
            refine RunT.ot0 (x := .lst (List.map eU8 r62.1)) rfl rfl rfl rfl (.assignX rfl) ?_
            refine RunT.ot0 (x := .v (.int .i64 r62.2)) rfl rfl rfl rfl (.assignX rfl) ?_
            refine RunT.nil ?_
            refine T.seq ?_
            refine T.sub (sub_pick [9, 11, 12, 13] [224] (st' := ⟨[(9, .v (.int .u64 ((IntKind.u64.wrap a1).tmod 4))), (11, .ptr 224 0), (12, .lst (List.map eU8 r62.1)), (13, .v (.int .i64 r62.2))], [(224, some (.box [.v (.int .i64 2), .v (.string (⟨#[]⟩ : ByteArray)), .v (.int .i64 5), .v (.int .i64 1), .v (.int .i64 4), .v (.int .i64 1), .v (.int .i64 y19), .v (.int .i64 3), .v (.int .i64 0)]))], 240, []⟩) rfl rfl rfl rfl rfl) ?_
            refine T.region ?_
            obtain ⟨r64, h65, H⟩ := bs H
            refine RunT.ot0 (x := .v (.bool r64)) rfl rfl rfl rfl (.callp (law22_told_pc false k  r64 h65) rfl trivial rfl rfl rfl) ?_
            refine RunT.ot0 (x := .v (.bool r64)) rfl rfl rfl rfl (.moveX rfl) ?_
            refine RunT.cases (t := 79) (c := r64) rfl (fun g66 => ?_) (fun g66 => ?_)
            · replace H := ct H g66
              refine RunT.gt0 (x := .agg [.v (.int .i64 2), .v (.string (⟨#[]⟩ : ByteArray)), .v (.int .i64 5), .v (.int .i64 1), .v (.int .i64 4), .v (.int .i64 1), .v (.int .i64 y19), .v (.int .i64 3), .v (.int .i64 0)]) rfl rfl rfl (bo g66) rfl rfl (.loadP ty51 rfl rfl rfl) ?_
              obtain ⟨r67, h68, H⟩ := bs H
              refine RunT.gt0 (x := .v (.bool r67)) rfl rfl rfl (bo g66) rfl rfl (.callp (record_May_pc false k (Record.mk 2 (⟨#[]⟩ : ByteArray) (Order.mk 5 1 (Party.mk 4 1) y19 3) 0) r67 h68) rfl ⟨(.agg' ⟨.v, .v, .v, .v, .v, .v, .v, .v, .v, trivial⟩), trivial⟩ rfl rfl rfl) ?_
              refine RunT.gt0 (x := .v (.int .u64 ((IntKind.u64.wrap a1).tmod 4))) rfl rfl rfl (bo g66) rfl rfl (.moveX rfl) ?_
              refine RunT.gt0 (x := .v (.bool (decide (((IntKind.u64.wrap a1).tmod 4) < 2)))) rfl rfl rfl (bo g66) rfl rfl (.bin rfl rfl (fun w => b_lss w) rfl) ?_
              refine RunT.gt0 (x := .v (.bool (r67 == (decide (((IntKind.u64.wrap a1).tmod 4) < 2))))) rfl rfl rfl (bo g66) rfl rfl (.bin rfl rfl (fun w => b_eqB w Try.underlying4) rfl) ?_
              refine RunT.ot0 (x := .v (.bool (r67 == (decide (((IntKind.u64.wrap a1).tmod 4) < 2))))) rfl rfl rfl rfl (.pickT (bo g66) rfl) ?_
              refine RunT.ot0 (x := .v (.bool (r67 == (decide (((IntKind.u64.wrap a1).tmod 4) < 2))))) rfl rfl rfl rfl (.moveX rfl) ?_
              refine RunT.cases (t := 86) (c := r67 == (decide (((IntKind.u64.wrap a1).tmod 4) < 2))) rfl (fun g69 => ?_) (fun g69 => ?_)
              · replace H := ct H g69
                refine RunT.gt0 (x := .v (.int .i64 r62.2)) rfl rfl rfl (bo g69) rfl rfl (.moveX rfl) ?_
                refine RunT.gt0 (x := .v (.bool (decide (r62.2 = 0)))) rfl rfl rfl (bo g69) rfl rfl (.bin rfl rfl (fun w => b_eql w) rfl) ?_
                refine RunT.gt0 (x := .v (.int .u64 ((IntKind.u64.wrap a1).tmod 4))) rfl rfl rfl (bo g69) rfl rfl (.moveX rfl) ?_
                refine RunT.gt0 (x := .v (.bool (decide (((IntKind.u64.wrap a1).tmod 4) < 2)))) rfl rfl rfl (bo g69) rfl rfl (.bin rfl rfl (fun w => b_lss w) rfl) ?_
                refine RunT.gt0 (x := .v (.bool ((decide (r62.2 = 0)) == (decide (((IntKind.u64.wrap a1).tmod 4) < 2))))) rfl rfl rfl (bo g69) rfl rfl (.bin rfl rfl (fun w => b_eqB w Try.underlying4) rfl) ?_
                refine RunT.ot0 (x := .v (.bool ((decide (r62.2 = 0)) == (decide (((IntKind.u64.wrap a1).tmod 4) < 2))))) rfl rfl rfl rfl (.pickT (bo g69) rfl) ?_
                refine RunT.ot0 (x := .v (.bool ((decide (r62.2 = 0)) == (decide (((IntKind.u64.wrap a1).tmod 4) < 2))))) rfl rfl rfl rfl (.moveX rfl) ?_
                refine RunT.cases (t := 93) (c := (decide (r62.2 = 0)) == (decide (((IntKind.u64.wrap a1).tmod 4) < 2))) rfl (fun g70 => ?_) (fun g70 => ?_)
                · replace H := ct H g70
                  refine RunT.gt0 (x := .lst (List.map eU8 r62.1)) rfl rfl rfl (bo g70) rfl rfl (.moveX rfl) ?_
                  refine RunT.gt0 (x := .v (.int .i64 (r62.1.length : Int))) rfl rfl rfl (bo g70) rfl rfl (.lenLm Try.underlying35 rfl rfl) ?_
                  refine RunT.gt0 (x := .v (.bool (decide ((r62.1.length : Int) = 20)))) rfl rfl rfl (bo g70) rfl rfl (.bin rfl rfl (fun w => b_eql w) rfl) ?_
                  refine RunT.gt0 (x := .v (.int .u64 ((IntKind.u64.wrap a1).tmod 4))) rfl rfl rfl (bo g70) rfl rfl (.moveX rfl) ?_
                  refine RunT.gt0 (x := .v (.bool (decide (((IntKind.u64.wrap a1).tmod 4) < 2)))) rfl rfl rfl (bo g70) rfl rfl (.bin rfl rfl (fun w => b_lss w) rfl) ?_
                  refine RunT.gt0 (x := .v (.bool ((decide ((r62.1.length : Int) = 20)) == (decide (((IntKind.u64.wrap a1).tmod 4) < 2))))) rfl rfl rfl (bo g70) rfl rfl (.bin rfl rfl (fun w => b_eqB w Try.underlying4) rfl) ?_
                  refine RunT.ot0 (x := .v (.bool ((decide ((r62.1.length : Int) = 20)) == (decide (((IntKind.u64.wrap a1).tmod 4) < 2))))) rfl rfl rfl rfl (.pickT (bo g70) rfl) ?_
                  refine RunT.ot0 (x := .v (.bool ((decide ((r62.1.length : Int) = 20)) == (decide (((IntKind.u64.wrap a1).tmod 4) < 2))))) rfl rfl rfl rfl (.assignX rfl) ?_
                  refine RunT.nil ?_
                  obtain rfl := si H
                  refine T.sub (sub_to (st' := ⟨[(4, .v (.bool ((decide ((r62.1.length : Int) = 20)) == (decide (((IntKind.u64.wrap a1).tmod 4) < 2)))))], [], 8, []⟩) [] (by decide) rfl rfl (⟨⟨_, rfl, .one .v⟩, trivial⟩) (trivial)) ?_
                  refine T.ret ?_
                  exact RetOk.same [.v (.bool ((decide ((r62.1.length : Int) = 20)) == (decide (((IntKind.u64.wrap a1).tmod 4) < 2))))] ⟨rfl, trivial⟩ rfl rfl rfl
                · replace H := cf H g70
                  refine RunT.xn rfl rfl rfl (bo g70) rfl rfl ?_
                  refine RunT.xn rfl rfl rfl (bo g70) rfl rfl ?_
                  refine RunT.xn rfl rfl rfl (bo g70) rfl rfl ?_
                  refine RunT.xn rfl rfl rfl (bo g70) rfl rfl ?_
                  refine RunT.xn rfl rfl rfl (bo g70) rfl rfl ?_
                  refine RunT.xn rfl rfl rfl (bo g70) rfl rfl ?_
                  refine RunT.ot0 (x := .v (.bool false)) rfl rfl rfl rfl (.pickF (bo g70) rfl) ?_
                  refine RunT.ot0 (x := .v (.bool false)) rfl rfl rfl rfl (.assignX rfl) ?_
                  refine RunT.nil ?_
                  obtain rfl := si H
                  refine T.sub (sub_to (st' := ⟨[(4, .v (.bool false))], [], 8, []⟩) [] (by decide) rfl rfl (⟨⟨_, rfl, .one .v⟩, trivial⟩) (trivial)) ?_
                  refine T.ret ?_
                  exact RetOk.same [.v (.bool false)] ⟨rfl, trivial⟩ rfl rfl rfl
              · replace H := cf H g69
                refine RunT.xn rfl rfl rfl (bo g69) rfl rfl ?_
                refine RunT.xn rfl rfl rfl (bo g69) rfl rfl ?_
                refine RunT.xn rfl rfl rfl (bo g69) rfl rfl ?_
                refine RunT.xn rfl rfl rfl (bo g69) rfl rfl ?_
                refine RunT.xn rfl rfl rfl (bo g69) rfl rfl ?_
                refine RunT.ot0 (x := .v (.bool false)) rfl rfl rfl rfl (.pickF (bo g69) rfl) ?_
                refine RunT.ot0 (x := .v (.bool false)) rfl rfl rfl rfl (.moveX rfl) ?_
                refine RunT.xn rfl rfl rfl rfl rfl rfl ?_
                refine RunT.xn rfl rfl rfl rfl rfl rfl ?_
                refine RunT.xn rfl rfl rfl rfl rfl rfl ?_
                refine RunT.xn rfl rfl rfl rfl rfl rfl ?_
                refine RunT.xn rfl rfl rfl rfl rfl rfl ?_
                refine RunT.xn rfl rfl rfl rfl rfl rfl ?_
                refine RunT.ot0 (x := .v (.bool false)) rfl rfl rfl rfl (.pickF rfl rfl) ?_
                refine RunT.ot0 (x := .v (.bool false)) rfl rfl rfl rfl (.assignX rfl) ?_
                refine RunT.nil ?_
                obtain rfl := si H
                refine T.sub (sub_to (st' := ⟨[(4, .v (.bool false))], [], 8, []⟩) [] (by decide) rfl rfl (⟨⟨_, rfl, .one .v⟩, trivial⟩) (trivial)) ?_
                refine T.ret ?_
                exact RetOk.same [.v (.bool false)] ⟨rfl, trivial⟩ rfl rfl rfl
            · replace H := cf H g66
              refine RunT.xn rfl rfl rfl (bo g66) rfl rfl ?_
              refine RunT.xn rfl rfl rfl (bo g66) rfl rfl ?_
              refine RunT.xn rfl rfl rfl (bo g66) rfl rfl ?_
              refine RunT.xn rfl rfl rfl (bo g66) rfl rfl ?_
              refine RunT.xn rfl rfl rfl (bo g66) rfl rfl ?_
              refine RunT.ot0 (x := .v (.bool false)) rfl rfl rfl rfl (.pickF (bo g66) rfl) ?_
              refine RunT.ot0 (x := .v (.bool false)) rfl rfl rfl rfl (.moveX rfl) ?_
              refine RunT.xn rfl rfl rfl rfl rfl rfl ?_
              refine RunT.xn rfl rfl rfl rfl rfl rfl ?_
              refine RunT.xn rfl rfl rfl rfl rfl rfl ?_
              refine RunT.xn rfl rfl rfl rfl rfl rfl ?_
              refine RunT.xn rfl rfl rfl rfl rfl rfl ?_
              refine RunT.ot0 (x := .v (.bool false)) rfl rfl rfl rfl (.pickF rfl rfl) ?_
              refine RunT.ot0 (x := .v (.bool false)) rfl rfl rfl rfl (.moveX rfl) ?_
              refine RunT.xn rfl rfl rfl rfl rfl rfl ?_
              refine RunT.xn rfl rfl rfl rfl rfl rfl ?_
              refine RunT.xn rfl rfl rfl rfl rfl rfl ?_
              refine RunT.xn rfl rfl rfl rfl rfl rfl ?_
              refine RunT.xn rfl rfl rfl rfl rfl rfl ?_
              refine RunT.xn rfl rfl rfl rfl rfl rfl ?_
              refine RunT.ot0 (x := .v (.bool false)) rfl rfl rfl rfl (.pickF rfl rfl) ?_
              refine RunT.ot0 (x := .v (.bool false)) rfl rfl rfl rfl (.assignX rfl) ?_
              refine RunT.nil ?_
              obtain rfl := si H
              refine T.sub (sub_to (st' := ⟨[(4, .v (.bool false))], [], 8, []⟩) [] (by decide) rfl rfl (⟨⟨_, rfl, .one .v⟩, trivial⟩) (trivial)) ?_
              refine T.ret ?_
              exact RetOk.same [.v (.bool false)] ⟨rfl, trivial⟩ rfl rfl rfl
          · replace H := cf H c61
            refine T.sub (sub_pick [5, 9, 10] [0] (st' := ⟨[(5, .ptr 0 0), (9, .v (.int .u64 ((IntKind.u64.wrap a1).tmod 4))), (10, .v (.int .i64 y19))], [(0, some (.box [.v (.int .i64 5), .v (.int .i64 1), .v (.int .i64 4), .v (.int .i64 1), .v (.int .i64 5), .v (.int .i64 3)]))], 216, []⟩) rfl rfl rfl rfl rfl) ?_
            refine T.region ?_
            refine RunT.ot0 (x := .v (.int .i64 y19)) rfl rfl rfl rfl (.moveX rfl) ?_
            refine RunT.ot0 (x := .ptr 0 5) rfl rfl rfl rfl (.fieldPX fl49_4 rfl rfl) ?_
            refine RunT.on1 (x := .junk) (p0 := (0, some (.box [.v (.int .i64 5), .v (.int .i64 1), .v (.int .i64 4), .v (.int .i64 1), .v (.int .i64 5), .v (.int .i64 y19)]))) (n' := 224) rfl rfl rfl (.storePX ty3 rfl rfl rfl rfl rfl rfl rfl) rfl ?_
            refine RunT.nil ?_
            refine T.seq ?_
            refine T.region ?_
            refine RunT.ot0 (x := .agg [.v (.int .i64 5), .v (.int .i64 1), .v (.int .i64 4), .v (.int .i64 1), .v (.int .i64 5), .v (.int .i64 y19)]) rfl rfl rfl rfl (.loadP ty49 rfl rfl rfl) ?_
            refine RunT.ot0 (x := .agg [.v (.int .i64 2), .v (.string (⟨#[]⟩ : ByteArray)), .v (.int .i64 5), .v (.int .i64 1), .v (.int .i64 4), .v (.int .i64 1), .v (.int .i64 5), .v (.int .i64 y19), .v (.int .i64 0)]) rfl rfl rfl rfl (.bu bu51 rfl) ?_
            refine RunT.ot1 (x := .ptr 224 0) (p0 := (224, some (.box [.v (.int .i64 0), .v (.string (⟨#[]⟩ : ByteArray)), .v (.int .i64 0), .v (.int .i64 0), .v (.int .i64 0), .v (.int .i64 0), .v (.int .i64 0), .v (.int .i64 0), .v (.int .i64 0)]))) (n' := 232) rfl rfl rfl rfl (.allocX in51.zero rfl rfl) rfl ?_
            refine RunT.on1 (x := .junk) (p0 := (224, some (.box [.v (.int .i64 2), .v (.string (⟨#[]⟩ : ByteArray)), .v (.int .i64 5), .v (.int .i64 1), .v (.int .i64 4), .v (.int .i64 1), .v (.int .i64 5), .v (.int .i64 y19), .v (.int .i64 0)]))) (n' := 240) rfl rfl rfl (.storePX ty51 rfl rfl rfl rfl rfl rfl rfl) rfl ?_
            refine RunT.nil ?_
            refine T.seq ?_
            refine T.region ?_
            refine RunT.ot0 (x := .agg [.v (.int .i64 2), .v (.string (⟨#[]⟩ : ByteArray)), .v (.int .i64 5), .v (.int .i64 1), .v (.int .i64 4), .v (.int .i64 1), .v (.int .i64 5), .v (.int .i64 y19), .v (.int .i64 0)]) rfl rfl rfl rfl (.loadP ty51 rfl rfl rfl) ?_
            obtain ⟨r71, h72, H⟩ := bs H
            refine RunT.ot0 (x := .tup [.lst (List.map eU8 r71.1), .v (.int .i64 r71.2)]) rfl rfl rfl rfl (.callp (PC.frozen (record_Put_pc false k (Record.mk 2 (⟨#[]⟩ : ByteArray) (Order.mk 5 1 (Party.mk 4 1) 5 y19) 0) r71 h72)) rfl ⟨(.agg' ⟨.v, .v, .v, .v, .v, .v, .v, .v, .v, trivial⟩), trivial⟩ rfl rfl rfl) ?_
            refine RunT.ot0 (x := .tup [.lst (List.map eU8 r71.1), .v (.int .i64 r71.2)]) rfl rfl rfl rfl (.moveX rfl) ?_
            refine RunT.ot0 (x := .lst (List.map eU8 r71.1)) rfl rfl rfl rfl (.extract rfl rfl) ?_
            refine RunT.ot0 (x := .v (.int .i64 r71.2)) rfl rfl rfl rfl (.extract rfl rfl) ?_
            refine RunT.ot0 (x := .lst (List.map eU8 r71.1)) rfl rfl rfl rfl (.assignX rfl) ?_
            refine RunT.ot0 (x := .v (.int .i64 r71.2)) rfl rfl rfl rfl (.assignX rfl) ?_
            refine RunT.nil ?_
            refine T.seq ?_
            refine T.region ?_
            obtain ⟨r73, h74, H⟩ := bs H
            refine RunT.ot0 (x := .v (.bool r73)) rfl rfl rfl rfl (.callp (law22_told_pc false k  r73 h74) rfl trivial rfl rfl rfl) ?_
            refine RunT.ot0 (x := .v (.bool r73)) rfl rfl rfl rfl (.moveX rfl) ?_
            refine RunT.cases (t := 79) (c := r73) rfl (fun g75 => ?_) (fun g75 => ?_)
            · replace H := ct H g75
              refine RunT.gt0 (x := .agg [.v (.int .i64 2), .v (.string (⟨#[]⟩ : ByteArray)), .v (.int .i64 5), .v (.int .i64 1), .v (.int .i64 4), .v (.int .i64 1), .v (.int .i64 5), .v (.int .i64 y19), .v (.int .i64 0)]) rfl rfl rfl (bo g75) rfl rfl (.loadP ty51 rfl rfl rfl) ?_
              obtain ⟨r76, h77, H⟩ := bs H
              refine RunT.gt0 (x := .v (.bool r76)) rfl rfl rfl (bo g75) rfl rfl (.callp (record_May_pc false k (Record.mk 2 (⟨#[]⟩ : ByteArray) (Order.mk 5 1 (Party.mk 4 1) 5 y19) 0) r76 h77) rfl ⟨(.agg' ⟨.v, .v, .v, .v, .v, .v, .v, .v, .v, trivial⟩), trivial⟩ rfl rfl rfl) ?_
              refine RunT.gt0 (x := .v (.int .u64 ((IntKind.u64.wrap a1).tmod 4))) rfl rfl rfl (bo g75) rfl rfl (.moveX rfl) ?_
              refine RunT.gt0 (x := .v (.bool (decide (((IntKind.u64.wrap a1).tmod 4) < 2)))) rfl rfl rfl (bo g75) rfl rfl (.bin rfl rfl (fun w => b_lss w) rfl) ?_
              refine RunT.gt0 (x := .v (.bool (r76 == (decide (((IntKind.u64.wrap a1).tmod 4) < 2))))) rfl rfl rfl (bo g75) rfl rfl (.bin rfl rfl (fun w => b_eqB w Try.underlying4) rfl) ?_
              refine RunT.ot0 (x := .v (.bool (r76 == (decide (((IntKind.u64.wrap a1).tmod 4) < 2))))) rfl rfl rfl rfl (.pickT (bo g75) rfl) ?_
              refine RunT.ot0 (x := .v (.bool (r76 == (decide (((IntKind.u64.wrap a1).tmod 4) < 2))))) rfl rfl rfl rfl (.moveX rfl) ?_
              refine RunT.cases (t := 86) (c := r76 == (decide (((IntKind.u64.wrap a1).tmod 4) < 2))) rfl (fun g78 => ?_) (fun g78 => ?_)
              · replace H := ct H g78
                refine RunT.gt0 (x := .v (.int .i64 r71.2)) rfl rfl rfl (bo g78) rfl rfl (.moveX rfl) ?_
                refine RunT.gt0 (x := .v (.bool (decide (r71.2 = 0)))) rfl rfl rfl (bo g78) rfl rfl (.bin rfl rfl (fun w => b_eql w) rfl) ?_
                refine RunT.gt0 (x := .v (.int .u64 ((IntKind.u64.wrap a1).tmod 4))) rfl rfl rfl (bo g78) rfl rfl (.moveX rfl) ?_
                refine RunT.gt0 (x := .v (.bool (decide (((IntKind.u64.wrap a1).tmod 4) < 2)))) rfl rfl rfl (bo g78) rfl rfl (.bin rfl rfl (fun w => b_lss w) rfl) ?_
                refine RunT.gt0 (x := .v (.bool ((decide (r71.2 = 0)) == (decide (((IntKind.u64.wrap a1).tmod 4) < 2))))) rfl rfl rfl (bo g78) rfl rfl (.bin rfl rfl (fun w => b_eqB w Try.underlying4) rfl) ?_
                refine RunT.ot0 (x := .v (.bool ((decide (r71.2 = 0)) == (decide (((IntKind.u64.wrap a1).tmod 4) < 2))))) rfl rfl rfl rfl (.pickT (bo g78) rfl) ?_
                refine RunT.ot0 (x := .v (.bool ((decide (r71.2 = 0)) == (decide (((IntKind.u64.wrap a1).tmod 4) < 2))))) rfl rfl rfl rfl (.moveX rfl) ?_
                refine RunT.cases (t := 93) (c := (decide (r71.2 = 0)) == (decide (((IntKind.u64.wrap a1).tmod 4) < 2))) rfl (fun g79 => ?_) (fun g79 => ?_)
                · replace H := ct H g79
                  refine RunT.gt0 (x := .lst (List.map eU8 r71.1)) rfl rfl rfl (bo g79) rfl rfl (.moveX rfl) ?_
                  refine RunT.gt0 (x := .v (.int .i64 (r71.1.length : Int))) rfl rfl rfl (bo g79) rfl rfl (.lenLm Try.underlying35 rfl rfl) ?_
                  refine RunT.gt0 (x := .v (.bool (decide ((r71.1.length : Int) = 20)))) rfl rfl rfl (bo g79) rfl rfl (.bin rfl rfl (fun w => b_eql w) rfl) ?_
                  refine RunT.gt0 (x := .v (.int .u64 ((IntKind.u64.wrap a1).tmod 4))) rfl rfl rfl (bo g79) rfl rfl (.moveX rfl) ?_
                  refine RunT.gt0 (x := .v (.bool (decide (((IntKind.u64.wrap a1).tmod 4) < 2)))) rfl rfl rfl (bo g79) rfl rfl (.bin rfl rfl (fun w => b_lss w) rfl) ?_
                  refine RunT.gt0 (x := .v (.bool ((decide ((r71.1.length : Int) = 20)) == (decide (((IntKind.u64.wrap a1).tmod 4) < 2))))) rfl rfl rfl (bo g79) rfl rfl (.bin rfl rfl (fun w => b_eqB w Try.underlying4) rfl) ?_
                  refine RunT.ot0 (x := .v (.bool ((decide ((r71.1.length : Int) = 20)) == (decide (((IntKind.u64.wrap a1).tmod 4) < 2))))) rfl rfl rfl rfl (.pickT (bo g79) rfl) ?_
                  refine RunT.ot0 (x := .v (.bool ((decide ((r71.1.length : Int) = 20)) == (decide (((IntKind.u64.wrap a1).tmod 4) < 2))))) rfl rfl rfl rfl (.assignX rfl) ?_
                  refine RunT.nil ?_
                  obtain rfl := si H
                  refine T.sub (sub_to (st' := ⟨[(4, .v (.bool ((decide ((r71.1.length : Int) = 20)) == (decide (((IntKind.u64.wrap a1).tmod 4) < 2)))))], [], 8, []⟩) [] (by decide) rfl rfl (⟨⟨_, rfl, .one .v⟩, trivial⟩) (trivial)) ?_
                  refine T.ret ?_
                  exact RetOk.same [.v (.bool ((decide ((r71.1.length : Int) = 20)) == (decide (((IntKind.u64.wrap a1).tmod 4) < 2))))] ⟨rfl, trivial⟩ rfl rfl rfl
                · replace H := cf H g79
                  refine RunT.xn rfl rfl rfl (bo g79) rfl rfl ?_
                  refine RunT.xn rfl rfl rfl (bo g79) rfl rfl ?_
                  refine RunT.xn rfl rfl rfl (bo g79) rfl rfl ?_
                  refine RunT.xn rfl rfl rfl (bo g79) rfl rfl ?_
                  refine RunT.xn rfl rfl rfl (bo g79) rfl rfl ?_
                  refine RunT.xn rfl rfl rfl (bo g79) rfl rfl ?_
                  refine RunT.ot0 (x := .v (.bool false)) rfl rfl rfl rfl (.pickF (bo g79) rfl) ?_
                  refine RunT.ot0 (x := .v (.bool false)) rfl rfl rfl rfl (.assignX rfl) ?_
                  refine RunT.nil ?_
                  obtain rfl := si H
                  refine T.sub (sub_to (st' := ⟨[(4, .v (.bool false))], [], 8, []⟩) [] (by decide) rfl rfl (⟨⟨_, rfl, .one .v⟩, trivial⟩) (trivial)) ?_
                  refine T.ret ?_
                  exact RetOk.same [.v (.bool false)] ⟨rfl, trivial⟩ rfl rfl rfl
              · replace H := cf H g78
                refine RunT.xn rfl rfl rfl (bo g78) rfl rfl ?_
                refine RunT.xn rfl rfl rfl (bo g78) rfl rfl ?_
                refine RunT.xn rfl rfl rfl (bo g78) rfl rfl ?_
                refine RunT.xn rfl rfl rfl (bo g78) rfl rfl ?_
                refine RunT.xn rfl rfl rfl (bo g78) rfl rfl ?_
                refine RunT.ot0 (x := .v (.bool false)) rfl rfl rfl rfl (.pickF (bo g78) rfl) ?_
                refine RunT.ot0 (x := .v (.bool false)) rfl rfl rfl rfl (.moveX rfl) ?_
                refine RunT.xn rfl rfl rfl rfl rfl rfl ?_
                refine RunT.xn rfl rfl rfl rfl rfl rfl ?_
                refine RunT.xn rfl rfl rfl rfl rfl rfl ?_
                refine RunT.xn rfl rfl rfl rfl rfl rfl ?_
                refine RunT.xn rfl rfl rfl rfl rfl rfl ?_
                refine RunT.xn rfl rfl rfl rfl rfl rfl ?_
                refine RunT.ot0 (x := .v (.bool false)) rfl rfl rfl rfl (.pickF rfl rfl) ?_
                refine RunT.ot0 (x := .v (.bool false)) rfl rfl rfl rfl (.assignX rfl) ?_
                refine RunT.nil ?_
                obtain rfl := si H
                refine T.sub (sub_to (st' := ⟨[(4, .v (.bool false))], [], 8, []⟩) [] (by decide) rfl rfl (⟨⟨_, rfl, .one .v⟩, trivial⟩) (trivial)) ?_
                refine T.ret ?_
                exact RetOk.same [.v (.bool false)] ⟨rfl, trivial⟩ rfl rfl rfl
            · replace H := cf H g75
              refine RunT.xn rfl rfl rfl (bo g75) rfl rfl ?_
              refine RunT.xn rfl rfl rfl (bo g75) rfl rfl ?_
              refine RunT.xn rfl rfl rfl (bo g75) rfl rfl ?_
              refine RunT.xn rfl rfl rfl (bo g75) rfl rfl ?_
              refine RunT.xn rfl rfl rfl (bo g75) rfl rfl ?_
              refine RunT.ot0 (x := .v (.bool false)) rfl rfl rfl rfl (.pickF (bo g75) rfl) ?_
              refine RunT.ot0 (x := .v (.bool false)) rfl rfl rfl rfl (.moveX rfl) ?_
              refine RunT.xn rfl rfl rfl rfl rfl rfl ?_
              refine RunT.xn rfl rfl rfl rfl rfl rfl ?_
              refine RunT.xn rfl rfl rfl rfl rfl rfl ?_
              refine RunT.xn rfl rfl rfl rfl rfl rfl ?_
              refine RunT.xn rfl rfl rfl rfl rfl rfl ?_
              refine RunT.ot0 (x := .v (.bool false)) rfl rfl rfl rfl (.pickF rfl rfl) ?_
              refine RunT.ot0 (x := .v (.bool false)) rfl rfl rfl rfl (.moveX rfl) ?_
              refine RunT.xn rfl rfl rfl rfl rfl rfl ?_
              refine RunT.xn rfl rfl rfl rfl rfl rfl ?_
              refine RunT.xn rfl rfl rfl rfl rfl rfl ?_
              refine RunT.xn rfl rfl rfl rfl rfl rfl ?_
              refine RunT.xn rfl rfl rfl rfl rfl rfl ?_
              refine RunT.xn rfl rfl rfl rfl rfl rfl ?_
              refine RunT.ot0 (x := .v (.bool false)) rfl rfl rfl rfl (.pickF rfl rfl) ?_
              refine RunT.ot0 (x := .v (.bool false)) rfl rfl rfl rfl (.assignX rfl) ?_
              refine RunT.nil ?_
              obtain rfl := si H
              refine T.sub (sub_to (st' := ⟨[(4, .v (.bool false))], [], 8, []⟩) [] (by decide) rfl rfl (⟨⟨_, rfl, .one .v⟩, trivial⟩) (trivial)) ?_
              refine T.ret ?_
              exact RetOk.same [.v (.bool false)] ⟨rfl, trivial⟩ rfl rfl rfl
end Go.Proofs.Ytijfhnpmdhonhaa
