/- The Go functions come to just what their plain forms come to: one contract each. -/
import Derived.Test.YtijfhnpmdhonhaaYRecordBack0
set_option linter.unusedVariables false
set_option linter.unusedSimpArgs false
set_option maxRecDepth 100000
namespace Go.Proofs.Ytijfhnpmdhonhaa
open Go Go.Sh Go.Px
attribute [local irreducible] Go.Sh.T Go.Sh.RunT Go.Sh.RunD
set_option maxHeartbeats 4000000 in
theorem law22_told_pc (al : Bool) (k : Nat)  (o : Bool) (H : law22_told k  = some o) : PC Try.prog al 32 [] (.v (.bool o)) := by
  unfold law22_told at H
  refine PC.of_T Try.func32 rfl rfl (n := 127) rfl rfl (.inr rfl) ?_
  intro base B w0
  refine T.st (st' := ⟨[], [], 0, []⟩) rfl ?_
  refine T.seq ?_
  refine T.region ?_
  refine RunT.ot0 (x := .v (.bool false)) rfl rfl rfl rfl (.assignX rfl) ?_
  refine RunT.nil ?_
  refine T.seq ?_
  refine T.region ?_
  refine RunT.ot0 (x := .agg [.v (.int .i64 2), .v (.int .i64 0)]) rfl rfl rfl rfl (.bu bu23 rfl) ?_
  refine RunT.ot0 (x := .agg [.v (.int .i64 258), .v (.int .i64 1), .v (.int .i64 2), .v (.int .i64 0), .v (.int .i64 5), .v (.int .i64 (-1))]) rfl rfl rfl rfl (.bu bu49 rfl) ?_
  refine RunT.ot0 (x := .agg [.v (.int .i64 2), .v (.string (⟨#[]⟩ : ByteArray)), .v (.int .i64 258), .v (.int .i64 1), .v (.int .i64 2), .v (.int .i64 0), .v (.int .i64 5), .v (.int .i64 (-1)), .v (.int .i64 0)]) rfl rfl rfl rfl (.bu bu51 rfl) ?_
  refine RunT.ot1 (x := .ptr 0 0) (p0 := (0, some (.box [.v (.int .i64 0), .v (.string (⟨#[]⟩ : ByteArray)), .v (.int .i64 0), .v (.int .i64 0), .v (.int .i64 0), .v (.int .i64 0), .v (.int .i64 0), .v (.int .i64 0), .v (.int .i64 0)]))) (n' := 8) rfl rfl rfl rfl (.allocX in51.zero rfl rfl) rfl ?_
  refine RunT.on1 (x := .junk) (p0 := (0, some (.box [.v (.int .i64 2), .v (.string (⟨#[]⟩ : ByteArray)), .v (.int .i64 258), .v (.int .i64 1), .v (.int .i64 2), .v (.int .i64 0), .v (.int .i64 5), .v (.int .i64 (-1)), .v (.int .i64 0)]))) (n' := 16) rfl rfl rfl (.storePX ty51 rfl rfl rfl rfl rfl rfl rfl) rfl ?_
  refine RunT.nil ?_
  refine T.seq ?_
  refine T.region ?_
  refine RunT.ot0 (x := .agg [.v (.int .i64 2), .v (.string (⟨#[]⟩ : ByteArray)), .v (.int .i64 258), .v (.int .i64 1), .v (.int .i64 2), .v (.int .i64 0), .v (.int .i64 5), .v (.int .i64 (-1)), .v (.int .i64 0)]) rfl rfl rfl rfl (.loadP ty51 rfl rfl rfl) ?_
  obtain ⟨r1, h2, H⟩ := bs H
  refine RunT.ot0 (x := .tup [.lst (List.map eU8 r1.1), .v (.int .i64 r1.2)]) rfl rfl rfl rfl (.callp (PC.frozen (record_Put_pc false k (Record.mk 2 (⟨#[]⟩ : ByteArray) (Order.mk 258 1 (Party.mk 2 0) 5 (-1)) 0) r1 h2)) rfl ⟨(.agg' ⟨.v, .v, .v, .v, .v, .v, .v, .v, .v, trivial⟩), trivial⟩ rfl rfl rfl) ?_
  refine RunT.ot0 (x := .tup [.lst (List.map eU8 r1.1), .v (.int .i64 r1.2)]) rfl rfl rfl rfl (.moveX rfl) ?_
  refine RunT.ot0 (x := .lst (List.map eU8 r1.1)) rfl rfl rfl rfl (.extract rfl rfl) ?_
  refine RunT.ot0 (x := .v (.int .i64 r1.2)) rfl rfl rfl rfl (.extract rfl rfl) ?_
  refine RunT.ot0 (x := .lst (List.map eU8 r1.1)) rfl rfl rfl rfl (.assignX rfl) ?_
  refine RunT.ot0 (x := .v (.int .i64 r1.2)) rfl rfl rfl rfl (.assignX rfl) ?_
  refine RunT.nil ?_
  refine T.seq ?_
  refine T.region ?_
  refine RunT.ot0 (x := .lst (List.map eU8 r1.1)) rfl rfl rfl rfl (.moveX rfl) ?_
  obtain ⟨r3, h4, H⟩ := bs H
  refine RunT.ot0 (x := .tup [.agg [.v (.int .i64 r3.1.Kind), .v (.string r3.1.Text), .v (.int .i64 r3.1.Order.Id), .v (.int .i64 r3.1.Order.State), .v (.int .i64 r3.1.Order.Party.Size), .v (.int .i64 r3.1.Order.Party.Wheels), .v (.int .i64 r3.1.Order.Until), .v (.int .i64 r3.1.Order.First), .v (.int .i64 r3.1.Time)], .v (.int .i64 r3.2)]) rfl rfl rfl rfl (.callp (record_Get_pc false k r1.1 r3 h4) rfl ⟨(.one .lst), trivial⟩ rfl rfl rfl) ?_
  refine RunT.ot0 (x := .tup [.agg [.v (.int .i64 r3.1.Kind), .v (.string r3.1.Text), .v (.int .i64 r3.1.Order.Id), .v (.int .i64 r3.1.Order.State), .v (.int .i64 r3.1.Order.Party.Size), .v (.int .i64 r3.1.Order.Party.Wheels), .v (.int .i64 r3.1.Order.Until), .v (.int .i64 r3.1.Order.First), .v (.int .i64 r3.1.Time)], .v (.int .i64 r3.2)]) rfl rfl rfl rfl (.moveX rfl) ?_
  refine RunT.ot0 (x := .agg [.v (.int .i64 r3.1.Kind), .v (.string r3.1.Text), .v (.int .i64 r3.1.Order.Id), .v (.int .i64 r3.1.Order.State), .v (.int .i64 r3.1.Order.Party.Size), .v (.int .i64 r3.1.Order.Party.Wheels), .v (.int .i64 r3.1.Order.Until), .v (.int .i64 r3.1.Order.First), .v (.int .i64 r3.1.Time)]) rfl rfl rfl rfl (.extract rfl rfl) ?_
  refine RunT.ot0 (x := .v (.int .i64 r3.2)) rfl rfl rfl rfl (.extract rfl rfl) ?_
  refine RunT.ot1 (x := .ptr 16 0) (p0 := (16, some (.box [.v (.int .i64 0), .v (.string (⟨#[]⟩ : ByteArray)), .v (.int .i64 0), .v (.int .i64 0), .v (.int .i64 0), .v (.int .i64 0), .v (.int .i64 0), .v (.int .i64 0), .v (.int .i64 0)]))) (n' := 24) rfl rfl rfl rfl (.allocX in51.zero rfl rfl) rfl ?_
  refine RunT.on1 (x := .junk) (p0 := (16, some (.box [.v (.int .i64 r3.1.Kind), .v (.string r3.1.Text), .v (.int .i64 r3.1.Order.Id), .v (.int .i64 r3.1.Order.State), .v (.int .i64 r3.1.Order.Party.Size), .v (.int .i64 r3.1.Order.Party.Wheels), .v (.int .i64 r3.1.Order.Until), .v (.int .i64 r3.1.Order.First), .v (.int .i64 r3.1.Time)]))) (n' := 32) rfl rfl rfl (.storePX ty51 rfl rfl rfl rfl rfl rfl rfl) rfl ?_
  refine RunT.ot0 (x := .v (.int .i64 r3.2)) rfl rfl rfl rfl (.assignX rfl) ?_
  refine RunT.nil ?_
  refine T.seq ?_
  refine T.sub (sub_pick [1, 2, 3, 4, 5] [0, 16] (st' := ⟨[(1, .ptr 0 0), (2, .lst (List.map eU8 r1.1)), (3, .v (.int .i64 r1.2)), (4, .ptr 16 0), (5, .v (.int .i64 r3.2))], [(0, some (.box [.v (.int .i64 2), .v (.string (⟨#[]⟩ : ByteArray)), .v (.int .i64 258), .v (.int .i64 1), .v (.int .i64 2), .v (.int .i64 0), .v (.int .i64 5), .v (.int .i64 (-1)), .v (.int .i64 0)])), (16, some (.box [.v (.int .i64 r3.1.Kind), .v (.string r3.1.Text), .v (.int .i64 r3.1.Order.Id), .v (.int .i64 r3.1.Order.State), .v (.int .i64 r3.1.Order.Party.Size), .v (.int .i64 r3.1.Order.Party.Wheels), .v (.int .i64 r3.1.Order.Until), .v (.int .i64 r3.1.Order.First), .v (.int .i64 r3.1.Time)]))], 32, []⟩) rfl rfl rfl rfl rfl) ?_
  refine T.region ?_
  refine RunT.ot0 (x := .agg [.v (.int .i64 4), .v (.string (⟨#[]⟩ : ByteArray)), .v (.int .i64 0), .v (.int .i64 0), .v (.int .i64 0), .v (.int .i64 0), .v (.int .i64 0), .v (.int .i64 0), .v (.int .i64 0)]) rfl rfl rfl rfl (.bu bu51 rfl) ?_
  obtain ⟨r5, h6, H⟩ := bs H
  refine RunT.ot0 (x := .tup [.lst (List.map eU8 r5.1), .v (.int .i64 r5.2)]) rfl rfl rfl rfl (.callp (PC.frozen (record_Put_pc false k (Record.mk 4 (⟨#[]⟩ : ByteArray) (Order.mk 0 0 (Party.mk 0 0) 0 0) 0) r5 h6)) rfl ⟨(.agg' ⟨.v, .v, .v, .v, .v, .v, .v, .v, .v, trivial⟩), trivial⟩ rfl rfl rfl) ?_
  refine RunT.ot0 (x := .tup [.lst (List.map eU8 r5.1), .v (.int .i64 r5.2)]) rfl rfl rfl rfl (.moveX rfl) ?_
  refine RunT.ot0 (x := .lst (List.map eU8 r5.1)) rfl rfl rfl rfl (.extract rfl rfl) ?_
  refine RunT.ot0 (x := .v (.int .i64 r5.2)) rfl rfl rfl rfl (.extract rfl rfl) ?_
  refine RunT.ot0 (x := .lst (List.map eU8 r5.1)) rfl rfl rfl rfl (.assignX rfl) ?_
  refine RunT.ot0 (x := .v (.int .i64 r5.2)) rfl rfl rfl rfl (.assignX rfl) ?_
  refine RunT.nil ?_
  refine T.seq ?_
  refine T.region ?_
  refine RunT.ot0 (x := .agg [.v (.int .i64 0), .v (.string (⟨#[]⟩ : ByteArray)), .v (.int .i64 0), .v (.int .i64 0), .v (.int .i64 0), .v (.int .i64 0), .v (.int .i64 0), .v (.int .i64 0), .v (.int .i64 0)]) rfl rfl rfl rfl (.bu bu51 rfl) ?_
  obtain ⟨r7, h8, H⟩ := bs H
  refine RunT.ot0 (x := .tup [.lst (List.map eU8 r7.1), .v (.int .i64 r7.2)]) rfl rfl rfl rfl (.callp (PC.frozen (record_Put_pc false k (Record.mk 0 (⟨#[]⟩ : ByteArray) (Order.mk 0 0 (Party.mk 0 0) 0 0) 0) r7 h8)) rfl ⟨(.agg' ⟨.v, .v, .v, .v, .v, .v, .v, .v, .v, trivial⟩), trivial⟩ rfl rfl rfl) ?_
  refine RunT.ot0 (x := .tup [.lst (List.map eU8 r7.1), .v (.int .i64 r7.2)]) rfl rfl rfl rfl (.moveX rfl) ?_
  refine RunT.ot0 (x := .lst (List.map eU8 r7.1)) rfl rfl rfl rfl (.extract rfl rfl) ?_
  refine RunT.ot0 (x := .v (.int .i64 r7.2)) rfl rfl rfl rfl (.extract rfl rfl) ?_
  refine RunT.ot0 (x := .lst (List.map eU8 r7.1)) rfl rfl rfl rfl (.assignX rfl) ?_
  refine RunT.ot0 (x := .v (.int .i64 r7.2)) rfl rfl rfl rfl (.assignX rfl) ?_
  refine RunT.nil ?_
  refine T.seq ?_
  refine T.region ?_
  obtain ⟨r9, h10, H⟩ := bs H
  refine RunT.ot0 (x := .tup [.agg [.v (.int .i64 r9.1.Kind), .v (.string r9.1.Text), .v (.int .i64 r9.1.Order.Id), .v (.int .i64 r9.1.Order.State), .v (.int .i64 r9.1.Order.Party.Size), .v (.int .i64 r9.1.Order.Party.Wheels), .v (.int .i64 r9.1.Order.Until), .v (.int .i64 r9.1.Order.First), .v (.int .i64 r9.1.Time)], .v (.int .i64 r9.2)]) rfl rfl rfl rfl (.callp (record_Get_pc false k [] r9 h10) rfl ⟨(.one .nil), trivial⟩ rfl rfl rfl) ?_
  refine RunT.ot0 (x := .tup [.agg [.v (.int .i64 r9.1.Kind), .v (.string r9.1.Text), .v (.int .i64 r9.1.Order.Id), .v (.int .i64 r9.1.Order.State), .v (.int .i64 r9.1.Order.Party.Size), .v (.int .i64 r9.1.Order.Party.Wheels), .v (.int .i64 r9.1.Order.Until), .v (.int .i64 r9.1.Order.First), .v (.int .i64 r9.1.Time)], .v (.int .i64 r9.2)]) rfl rfl rfl rfl (.moveX rfl) ?_
  refine RunT.ot0 (x := .agg [.v (.int .i64 r9.1.Kind), .v (.string r9.1.Text), .v (.int .i64 r9.1.Order.Id), .v (.int .i64 r9.1.Order.State), .v (.int .i64 r9.1.Order.Party.Size), .v (.int .i64 r9.1.Order.Party.Wheels), .v (.int .i64 r9.1.Order.Until), .v (.int .i64 r9.1.Order.First), .v (.int .i64 r9.1.Time)]) rfl rfl rfl rfl (.extract rfl rfl) ?_
  refine RunT.ot0 (x := .v (.int .i64 r9.2)) rfl rfl rfl rfl (.extract rfl rfl) ?_
  refine RunT.ot1 (x := .ptr 32 0) (p0 := (32, some (.box [.v (.int .i64 0), .v (.string (⟨#[]⟩ : ByteArray)), .v (.int .i64 0), .v (.int .i64 0), .v (.int .i64 0), .v (.int .i64 0), .v (.int .i64 0), .v (.int .i64 0), .v (.int .i64 0)]))) (n' := 40) rfl rfl rfl rfl (.allocX in51.zero rfl rfl) rfl ?_
  refine RunT.on1 (x := .junk) (p0 := (32, some (.box [.v (.int .i64 r9.1.Kind), .v (.string r9.1.Text), .v (.int .i64 r9.1.Order.Id), .v (.int .i64 r9.1.Order.State), .v (.int .i64 r9.1.Order.Party.Size), .v (.int .i64 r9.1.Order.Party.Wheels), .v (.int .i64 r9.1.Order.Until), .v (.int .i64 r9.1.Order.First), .v (.int .i64 r9.1.Time)]))) (n' := 48) rfl rfl rfl (.storePX ty51 rfl rfl rfl rfl rfl rfl rfl) rfl ?_
  refine RunT.ot0 (x := .v (.int .i64 r9.2)) rfl rfl rfl rfl (.assignX rfl) ?_
  refine RunT.nil ?_
  refine T.seq ?_
  refine T.sub (sub_pick [1, 2, 3, 4, 5, 6, 7, 9, 11] [0, 16] (st' := ⟨[(1, .ptr 0 0), (2, .lst (List.map eU8 r1.1)), (3, .v (.int .i64 r1.2)), (4, .ptr 16 0), (5, .v (.int .i64 r3.2)), (6, .lst (List.map eU8 r5.1)), (7, .v (.int .i64 r5.2)), (9, .v (.int .i64 r7.2)), (11, .v (.int .i64 r9.2))], [(0, some (.box [.v (.int .i64 2), .v (.string (⟨#[]⟩ : ByteArray)), .v (.int .i64 258), .v (.int .i64 1), .v (.int .i64 2), .v (.int .i64 0), .v (.int .i64 5), .v (.int .i64 (-1)), .v (.int .i64 0)])), (16, some (.box [.v (.int .i64 r3.1.Kind), .v (.string r3.1.Text), .v (.int .i64 r3.1.Order.Id), .v (.int .i64 r3.1.Order.State), .v (.int .i64 r3.1.Order.Party.Size), .v (.int .i64 r3.1.Order.Party.Wheels), .v (.int .i64 r3.1.Order.Until), .v (.int .i64 r3.1.Order.First), .v (.int .i64 r3.1.Time)]))], 48, []⟩) rfl rfl rfl rfl rfl) ?_
  refine T.region ?_
  refine RunT.ot1 (x := .own 48 0 (([4, 0]).length)) (p0 := (48, some (.arr false 1 (List.map eU8 [4, 0])))) (n' := 56) rfl rfl rfl rfl (.bslicem (d := false) (l := [4, 0]) (f := eU8) sl35 rfl rfl rfl enc_U8 rfl) rfl ?_
  obtain ⟨r11, h12, H⟩ := bs H
  refine RunT.ot0 (x := .tup [.agg [.v (.int .i64 r11.1.Kind), .v (.string r11.1.Text), .v (.int .i64 r11.1.Order.Id), .v (.int .i64 r11.1.Order.State), .v (.int .i64 r11.1.Order.Party.Size), .v (.int .i64 r11.1.Order.Party.Wheels), .v (.int .i64 r11.1.Order.Until), .v (.int .i64 r11.1.Order.First), .v (.int .i64 r11.1.Time)], .v (.int .i64 r11.2)]) rfl rfl rfl rfl (.callp (record_Get_pc false k [4, 0] r11 h12) rfl ⟨(.one (.all rfl (List.length_map _).symm)), trivial⟩ rfl rfl rfl) ?_
  refine RunT.ot0 (x := .tup [.agg [.v (.int .i64 r11.1.Kind), .v (.string r11.1.Text), .v (.int .i64 r11.1.Order.Id), .v (.int .i64 r11.1.Order.State), .v (.int .i64 r11.1.Order.Party.Size), .v (.int .i64 r11.1.Order.Party.Wheels), .v (.int .i64 r11.1.Order.Until), .v (.int .i64 r11.1.Order.First), .v (.int .i64 r11.1.Time)], .v (.int .i64 r11.2)]) rfl rfl rfl rfl (.moveX rfl) ?_
  refine RunT.ot0 (x := .agg [.v (.int .i64 r11.1.Kind), .v (.string r11.1.Text), .v (.int .i64 r11.1.Order.Id), .v (.int .i64 r11.1.Order.State), .v (.int .i64 r11.1.Order.Party.Size), .v (.int .i64 r11.1.Order.Party.Wheels), .v (.int .i64 r11.1.Order.Until), .v (.int .i64 r11.1.Order.First), .v (.int .i64 r11.1.Time)]) rfl rfl rfl rfl (.extract rfl rfl) ?_
  refine RunT.ot0 (x := .v (.int .i64 r11.2)) rfl rfl rfl rfl (.extract rfl rfl) ?_
  refine RunT.ot1 (x := .ptr 56 0) (p0 := (56, some (.box [.v (.int .i64 0), .v (.string (⟨#[]⟩ : ByteArray)), .v (.int .i64 0), .v (.int .i64 0), .v (.int .i64 0), .v (.int .i64 0), .v (.int .i64 0), .v (.int .i64 0), .v (.int .i64 0)]))) (n' := 64) rfl rfl rfl rfl (.allocX in51.zero rfl rfl) rfl ?_
  refine RunT.on1 (x := .junk) (p0 := (56, some (.box [.v (.int .i64 r11.1.Kind), .v (.string r11.1.Text), .v (.int .i64 r11.1.Order.Id), .v (.int .i64 r11.1.Order.State), .v (.int .i64 r11.1.Order.Party.Size), .v (.int .i64 r11.1.Order.Party.Wheels), .v (.int .i64 r11.1.Order.Until), .v (.int .i64 r11.1.Order.First), .v (.int .i64 r11.1.Time)]))) (n' := 72) rfl rfl rfl (.storePX ty51 rfl rfl rfl rfl rfl rfl rfl) rfl ?_
  refine RunT.ot0 (x := .v (.int .i64 r11.2)) rfl rfl rfl rfl (.assignX rfl) ?_
  refine RunT.nil ?_
  refine T.seq ?_
  refine T.region ?_
  refine RunT.ot0 (x := .v (.int .i64 r1.2)) rfl rfl rfl rfl (.moveX rfl) ?_
  refine RunT.ot0 (x := .v (.bool (decide (r1.2 = 0)))) rfl rfl rfl rfl (.bin rfl rfl (fun w => b_eql w) rfl) ?_
  refine RunT.ot0 (x := .v (.bool (decide (r1.2 = 0)))) rfl rfl rfl rfl (.moveX rfl) ?_
  refine RunT.cases (t := 48) (c := decide (r1.2 = 0)) rfl (fun g13 => ?_) (fun g13 => ?_)
  · replace H := ct H g13
    refine RunT.gt0 (x := .lst (List.map eU8 r1.1)) rfl rfl rfl (bo g13) rfl rfl (.moveX rfl) ?_
    refine RunT.gt0 (x := .v (.int .i64 (r1.1.length : Int))) rfl rfl rfl (bo g13) rfl rfl (.lenLm Try.underlying35 rfl rfl) ?_
    refine RunT.gt0 (x := .v (.bool (decide ((r1.1.length : Int) = 20)))) rfl rfl rfl (bo g13) rfl rfl (.bin rfl rfl (fun w => b_eql w) rfl) ?_
    refine RunT.ot0 (x := .v (.bool (decide ((r1.1.length : Int) = 20)))) rfl rfl rfl rfl (.pickT (bo g13) rfl) ?_
    refine RunT.ot0 (x := .v (.bool (decide ((r1.1.length : Int) = 20)))) rfl rfl rfl rfl (.moveX rfl) ?_
    refine RunT.cases (t := 53) (c := decide ((r1.1.length : Int) = 20)) rfl (fun g14 => ?_) (fun g14 => ?_)
    · replace H := ct H g14
      refine RunT.gt0 (x := .lst (List.map eU8 r1.1)) rfl rfl rfl (bo g14) rfl rfl (.moveX rfl) ?_
      obtain ⟨y15, h16, H⟩ := bs H
      refine RunT.gt0 (x := .rptr [.v (.int .u8 y15)]) rfl rfl rfl (bo g14) rfl rfl (.idxLX h16 enc_U8 sl35 rfl rfl rfl) ?_
      refine RunT.gt0 (x := .v (.int .u8 y15)) rfl rfl rfl (bo g14) rfl rfl (.loadR ty5 rfl rfl) ?_
      refine RunT.gt0 (x := .v (.bool (decide (y15 = 2)))) rfl rfl rfl (bo g14) rfl rfl (.bin rfl rfl (fun w => b_eql w) rfl) ?_
      refine RunT.ot0 (x := .v (.bool (decide (y15 = 2)))) rfl rfl rfl rfl (.pickT (bo g14) rfl) ?_
      refine RunT.ot0 (x := .v (.bool (decide (y15 = 2)))) rfl rfl rfl rfl (.moveX rfl) ?_
      refine RunT.cases (t := 59) (c := decide (y15 = 2)) rfl (fun g17 => ?_) (fun g17 => ?_)
      · replace H := ct H g17
        refine RunT.gt0 (x := .lst (List.map eU8 r1.1)) rfl rfl rfl (bo g17) rfl rfl (.moveX rfl) ?_
        obtain ⟨y18, h19, H⟩ := bs H
        refine RunT.gt0 (x := .rptr [.v (.int .u8 y18)]) rfl rfl rfl (bo g17) rfl rfl (.idxLX h19 enc_U8 sl35 rfl rfl rfl) ?_
        refine RunT.gt0 (x := .v (.int .u8 y18)) rfl rfl rfl (bo g17) rfl rfl (.loadR ty5 rfl rfl) ?_
        refine RunT.gt0 (x := .v (.bool (decide (y18 = 2)))) rfl rfl rfl (bo g17) rfl rfl (.bin rfl rfl (fun w => b_eql w) rfl) ?_
        refine RunT.ot0 (x := .v (.bool (decide (y18 = 2)))) rfl rfl rfl rfl (.pickT (bo g17) rfl) ?_
        refine RunT.ot0 (x := .v (.bool (decide (y18 = 2)))) rfl rfl rfl rfl (.moveX rfl) ?_
        refine RunT.cases (t := 65) (c := decide (y18 = 2)) rfl (fun g20 => ?_) (fun g20 => ?_)
        · replace H := ct H g20
          refine RunT.gt0 (x := .lst (List.map eU8 r1.1)) rfl rfl rfl (bo g20) rfl rfl (.moveX rfl) ?_
          obtain ⟨y21, h22, H⟩ := bs H
          refine RunT.gt0 (x := .rptr [.v (.int .u8 y21)]) rfl rfl rfl (bo g20) rfl rfl (.idxLX h22 enc_U8 sl35 rfl rfl rfl) ?_
          refine RunT.gt0 (x := .v (.int .u8 y21)) rfl rfl rfl (bo g20) rfl rfl (.loadR ty5 rfl rfl) ?_
          refine RunT.gt0 (x := .v (.bool (decide (y21 = 1)))) rfl rfl rfl (bo g20) rfl rfl (.bin rfl rfl (fun w => b_eql w) rfl) ?_
          refine RunT.ot0 (x := .v (.bool (decide (y21 = 1)))) rfl rfl rfl rfl (.pickT (bo g20) rfl) ?_
          refine RunT.ot0 (x := .v (.bool (decide (y21 = 1)))) rfl rfl rfl rfl (.moveX rfl) ?_
          refine RunT.cases (t := 71) (c := decide (y21 = 1)) rfl (fun g23 => ?_) (fun g23 => ?_)
          · replace H := ct H g23
            refine RunT.gt0 (x := .lst (List.map eU8 r1.1)) rfl rfl rfl (bo g23) rfl rfl (.moveX rfl) ?_
            obtain ⟨y24, h25, H⟩ := bs H
            refine RunT.gt0 (x := .rptr [.v (.int .u8 y24)]) rfl rfl rfl (bo g23) rfl rfl (.idxLX h25 enc_U8 sl35 rfl rfl rfl) ?_
            refine RunT.gt0 (x := .v (.int .u8 y24)) rfl rfl rfl (bo g23) rfl rfl (.loadR ty5 rfl rfl) ?_
            refine RunT.gt0 (x := .v (.bool (decide (y24 = 0)))) rfl rfl rfl (bo g23) rfl rfl (.bin rfl rfl (fun w => b_eql w) rfl) ?_
            refine RunT.ot0 (x := .v (.bool (decide (y24 = 0)))) rfl rfl rfl rfl (.pickT (bo g23) rfl) ?_
            refine RunT.ot0 (x := .v (.bool (decide (y24 = 0)))) rfl rfl rfl rfl (.moveX rfl) ?_
            refine RunT.cases (t := 77) (c := decide (y24 = 0)) rfl (fun g26 => ?_) (fun g26 => ?_)
            · replace H := ct H g26
              refine RunT.gt0 (x := .v (.int .i64 r3.2)) rfl rfl rfl (bo g26) rfl rfl (.moveX rfl) ?_
              refine RunT.gt0 (x := .v (.bool (decide (r3.2 = 0)))) rfl rfl rfl (bo g26) rfl rfl (.bin rfl rfl (fun w => b_eql w) rfl) ?_
              refine RunT.ot0 (x := .v (.bool (decide (r3.2 = 0)))) rfl rfl rfl rfl (.pickT (bo g26) rfl) ?_
              refine RunT.ot0 (x := .v (.bool (decide (r3.2 = 0)))) rfl rfl rfl rfl (.moveX rfl) ?_
              refine RunT.cases (t := 81) (c := decide (r3.2 = 0)) rfl (fun g27 => ?_) (fun g27 => ?_)
              · replace H := ct H g27
                refine RunT.gt0 (x := .agg [.v (.int .i64 r3.1.Kind), .v (.string r3.1.Text), .v (.int .i64 r3.1.Order.Id), .v (.int .i64 r3.1.Order.State), .v (.int .i64 r3.1.Order.Party.Size), .v (.int .i64 r3.1.Order.Party.Wheels), .v (.int .i64 r3.1.Order.Until), .v (.int .i64 r3.1.Order.First), .v (.int .i64 r3.1.Time)]) rfl rfl rfl (bo g27) rfl rfl (.loadP ty51 rfl rfl rfl) ?_
                refine RunT.gt0 (x := .agg [.v (.int .i64 2), .v (.string (⟨#[]⟩ : ByteArray)), .v (.int .i64 258), .v (.int .i64 1), .v (.int .i64 2), .v (.int .i64 0), .v (.int .i64 5), .v (.int .i64 (-1)), .v (.int .i64 0)]) rfl rfl rfl (bo g27) rfl rfl (.loadP ty51 rfl rfl rfl) ?_
                refine RunT.gt0 (x := .v (.bool (decide (r3.1 = Record.mk 2 (⟨#[]⟩ : ByteArray) (Order.mk 258 1 (Party.mk 2 0) 5 (-1)) 0)))) rfl rfl rfl (bo g27) rfl rfl (.binA (us := us_Record (r3.1)) (vs := us_Record (Record.mk 2 (⟨#[]⟩ : ByteArray) (Order.mk 258 1 (Party.mk 2 0) 5 (-1)) 0)) rfl rfl (fun w => eq_Record (r3.1) (Record.mk 2 (⟨#[]⟩ : ByteArray) (Order.mk 258 1 (Party.mk 2 0) 5 (-1)) 0) w) rfl) ?_
                refine RunT.ot0 (x := .v (.bool (decide (r3.1 = Record.mk 2 (⟨#[]⟩ : ByteArray) (Order.mk 258 1 (Party.mk 2 0) 5 (-1)) 0)))) rfl rfl rfl rfl (.pickT (bo g27) rfl) ?_
                refine RunT.ot0 (x := .v (.bool (decide (r3.1 = Record.mk 2 (⟨#[]⟩ : ByteArray) (Order.mk 258 1 (Party.mk 2 0) 5 (-1)) 0)))) rfl rfl rfl rfl (.moveX rfl) ?_
                refine RunT.cases (t := 86) (c := decide (r3.1 = Record.mk 2 (⟨#[]⟩ : ByteArray) (Order.mk 258 1 (Party.mk 2 0) 5 (-1)) 0)) rfl (fun g28 => ?_) (fun g28 => ?_)
                · replace H := ct H g28
                  refine RunT.gt0 (x := .v (.int .i64 r5.2)) rfl rfl rfl (bo g28) rfl rfl (.moveX rfl) ?_
                  refine RunT.gt0 (x := .v (.bool (decide (r5.2 = 0)))) rfl rfl rfl (bo g28) rfl rfl (.bin rfl rfl (fun w => b_eql w) rfl) ?_
                  refine RunT.ot0 (x := .v (.bool (decide (r5.2 = 0)))) rfl rfl rfl rfl (.pickT (bo g28) rfl) ?_
                  refine RunT.ot0 (x := .v (.bool (decide (r5.2 = 0)))) rfl rfl rfl rfl (.moveX rfl) ?_
                  refine RunT.cases (t := 90) (c := decide (r5.2 = 0)) rfl (fun g29 => ?_) (fun g29 => ?_)
                  · replace H := ct H g29
                    refine RunT.gt0 (x := .lst (List.map eU8 r5.1)) rfl rfl rfl (bo g29) rfl rfl (.moveX rfl) ?_
                    refine RunT.gt0 (x := .v (.string (strOf r5.1))) rfl rfl rfl (bo g29) rfl rfl (.toStrm (d := false) (m := r5.1) (f := eU8) Try.underlying35 Try.underlying5 Try.underlying9 rfl (.lstm Try.underlying35 enc_U8) (fun _ => rfl)) ?_
                    refine RunT.gt0 (x := .v (.bool ((strOf r5.1) == (⟨#[4]⟩ : ByteArray)))) rfl rfl rfl (bo g29) rfl rfl (.bin rfl rfl (fun w => eqStr w) rfl) ?_
                    refine RunT.ot0 (x := .v (.bool ((strOf r5.1) == (⟨#[4]⟩ : ByteArray)))) rfl rfl rfl rfl (.pickT (bo g29) rfl) ?_
                    refine RunT.ot0 (x := .v (.bool ((strOf r5.1) == (⟨#[4]⟩ : ByteArray)))) rfl rfl rfl rfl (.moveX rfl) ?_
                    refine RunT.cases (t := 95) (c := (strOf r5.1) == (⟨#[4]⟩ : ByteArray)) rfl (fun g30 => ?_) (fun g30 => ?_)
                    · replace H := ct H g30
                      refine RunT.gt0 (x := .v (.int .i64 r7.2)) rfl rfl rfl (bo g30) rfl rfl (.moveX rfl) ?_
                      refine RunT.gt0 (x := .v (.bool (decide (r7.2 = 1)))) rfl rfl rfl (bo g30) rfl rfl (.bin rfl rfl (fun w => b_eql w) rfl) ?_
                      refine RunT.ot0 (x := .v (.bool (decide (r7.2 = 1)))) rfl rfl rfl rfl (.pickT (bo g30) rfl) ?_
                      refine RunT.ot0 (x := .v (.bool (decide (r7.2 = 1)))) rfl rfl rfl rfl (.moveX rfl) ?_
                      refine RunT.cases (t := 99) (c := decide (r7.2 = 1)) rfl (fun g31 => ?_) (fun g31 => ?_)
                      · replace H := ct H g31
                        refine RunT.gt0 (x := .v (.int .i64 r9.2)) rfl rfl rfl (bo g31) rfl rfl (.moveX rfl) ?_
                        refine RunT.gt0 (x := .v (.bool (decide (r9.2 = 10)))) rfl rfl rfl (bo g31) rfl rfl (.bin rfl rfl (fun w => b_eql w) rfl) ?_
                        refine RunT.ot0 (x := .v (.bool (decide (r9.2 = 10)))) rfl rfl rfl rfl (.pickT (bo g31) rfl) ?_
                        refine RunT.ot0 (x := .v (.bool (decide (r9.2 = 10)))) rfl rfl rfl rfl (.moveX rfl) ?_
                        refine RunT.cases (t := 103) (c := decide (r9.2 = 10)) rfl (fun g32 => ?_) (fun g32 => ?_)
                        · replace H := ct H g32
                          refine RunT.gt0 (x := .v (.int .i64 r11.2)) rfl rfl rfl (bo g32) rfl rfl (.moveX rfl) ?_
                          refine RunT.gt0 (x := .v (.bool (decide (r11.2 = 10)))) rfl rfl rfl (bo g32) rfl rfl (.bin rfl rfl (fun w => b_eql w) rfl) ?_
                          refine RunT.ot0 (x := .v (.bool (decide (r11.2 = 10)))) rfl rfl rfl rfl (.pickT (bo g32) rfl) ?_
                          refine RunT.ot0 (x := .v (.bool (decide (r11.2 = 10)))) rfl rfl rfl rfl (.moveX rfl) ?_
                          refine RunT.cases (t := 107) (c := decide (r11.2 = 10)) rfl (fun g33 => ?_) (fun g33 => ?_)
                          · replace H := ct H g33
                            refine RunT.gt0 (x := .agg [.v (.int .i64 2), .v (.string (⟨#[]⟩ : ByteArray)), .v (.int .i64 258), .v (.int .i64 1), .v (.int .i64 2), .v (.int .i64 0), .v (.int .i64 5), .v (.int .i64 (-1)), .v (.int .i64 0)]) rfl rfl rfl (bo g33) rfl rfl (.loadP ty51 rfl rfl rfl) ?_
                            obtain ⟨r34, h35, H⟩ := bs H
                            refine RunT.gt0 (x := .v (.bool r34)) rfl rfl rfl (bo g33) rfl rfl (.callp (record_May_pc false k (Record.mk 2 (⟨#[]⟩ : ByteArray) (Order.mk 258 1 (Party.mk 2 0) 5 (-1)) 0) r34 h35) rfl ⟨(.agg' ⟨.v, .v, .v, .v, .v, .v, .v, .v, .v, trivial⟩), trivial⟩ rfl rfl rfl) ?_
                            refine RunT.ot0 (x := .v (.bool r34)) rfl rfl rfl rfl (.pickT (bo g33) rfl) ?_
                            refine RunT.ot0 (x := .v (.bool r34)) rfl rfl rfl rfl (.moveX rfl) ?_
                            refine RunT.cases (t := 111) (c := r34) rfl (fun g36 => ?_) (fun g36 => ?_)
                            · replace H := ct H g36
                              refine RunT.gt0 (x := .agg [.v (.int .i64 3), .v (.string (⟨#[]⟩ : ByteArray)), .v (.int .i64 0), .v (.int .i64 0), .v (.int .i64 0), .v (.int .i64 0), .v (.int .i64 0), .v (.int .i64 0), .v (.int .i64 (-1))]) rfl rfl rfl (bo g36) rfl rfl (.bu bu51 rfl) ?_
                              obtain ⟨r37, h38, H⟩ := bs H
                              refine RunT.gt0 (x := .v (.bool r37)) rfl rfl rfl (bo g36) rfl rfl (.callp (record_May_pc false k (Record.mk 3 (⟨#[]⟩ : ByteArray) (Order.mk 0 0 (Party.mk 0 0) 0 0) (-1)) r37 h38) rfl ⟨(.agg' ⟨.v, .v, .v, .v, .v, .v, .v, .v, .v, trivial⟩), trivial⟩ rfl rfl rfl) ?_
                              refine RunT.gt0 (x := .v (.bool (!r37))) rfl rfl rfl (bo g36) rfl rfl (.un rfl (fun w => u_not w) rfl) ?_
                              refine RunT.ot0 (x := .v (.bool (!r37))) rfl rfl rfl rfl (.pickT (bo g36) rfl) ?_
                              refine RunT.ot0 (x := .v (.bool (!r37))) rfl rfl rfl rfl (.moveX rfl) ?_
                              refine RunT.cases (t := 116) (c := !r37) rfl (fun g39 => ?_) (fun g39 => ?_)
                              · replace H := ct H g39
                                refine RunT.gt0 (x := .agg [.v (.int .i64 2), .v (.string (⟨#[]⟩ : ByteArray)), .v (.int .i64 258), .v (.int .i64 1), .v (.int .i64 2), .v (.int .i64 0), .v (.int .i64 5), .v (.int .i64 (-1)), .v (.int .i64 0)]) rfl rfl rfl (bo g39) rfl rfl (.loadP ty51 rfl rfl rfl) ?_
                                refine RunT.gt0 (x := .agg [.v (.int .i64 r3.1.Kind), .v (.string r3.1.Text), .v (.int .i64 r3.1.Order.Id), .v (.int .i64 r3.1.Order.State), .v (.int .i64 r3.1.Order.Party.Size), .v (.int .i64 r3.1.Order.Party.Wheels), .v (.int .i64 r3.1.Order.Until), .v (.int .i64 r3.1.Order.First), .v (.int .i64 r3.1.Time)]) rfl rfl rfl (bo g39) rfl rfl (.loadP ty51 rfl rfl rfl) ?_
                                obtain ⟨r40, h41, H⟩ := bs H
                                refine RunT.gt0 (x := .v (.bool r40)) rfl rfl rfl (bo g39) rfl rfl (.callp (record_Same_pc false k (Record.mk 2 (⟨#[]⟩ : ByteArray) (Order.mk 258 1 (Party.mk 2 0) 5 (-1)) 0) r3.1 r40 h41) rfl ⟨(.agg' ⟨.v, .v, .v, .v, .v, .v, .v, .v, .v, trivial⟩), (.agg' ⟨.v, .v, .v, .v, .v, .v, .v, .v, .v, trivial⟩), trivial⟩ rfl rfl rfl) ?_
                                refine RunT.ot0 (x := .v (.bool r40)) rfl rfl rfl rfl (.pickT (bo g39) rfl) ?_
                                refine RunT.ot0 (x := .v (.bool r40)) rfl rfl rfl rfl (.moveX rfl) ?_
                                refine RunT.cases (t := 121) (c := r40) rfl (fun g42 => ?_) (fun g42 => ?_)
                                · replace H := ct H g42
                                  refine RunT.gt0 (x := .agg [.v (.int .i64 2), .v (.string (⟨#[]⟩ : ByteArray)), .v (.int .i64 258), .v (.int .i64 1), .v (.int .i64 2), .v (.int .i64 0), .v (.int .i64 5), .v (.int .i64 (-1)), .v (.int .i64 0)]) rfl rfl rfl (bo g42) rfl rfl (.loadP ty51 rfl rfl rfl) ?_
                                  refine RunT.gt0 (x := .agg [.v (.int .i64 0), .v (.string (⟨#[]⟩ : ByteArray)), .v (.int .i64 0), .v (.int .i64 0), .v (.int .i64 0), .v (.int .i64 0), .v (.int .i64 0), .v (.int .i64 0), .v (.int .i64 0)]) rfl rfl rfl (bo g42) rfl rfl (.bu bu51 rfl) ?_
                                  obtain ⟨r43, h44, H⟩ := bs H
                                  refine RunT.gt0 (x := .v (.bool r43)) rfl rfl rfl (bo g42) rfl rfl (.callp (record_Same_pc false k (Record.mk 2 (⟨#[]⟩ : ByteArray) (Order.mk 258 1 (Party.mk 2 0) 5 (-1)) 0) (Record.mk 0 (⟨#[]⟩ : ByteArray) (Order.mk 0 0 (Party.mk 0 0) 0 0) 0) r43 h44) rfl ⟨(.agg' ⟨.v, .v, .v, .v, .v, .v, .v, .v, .v, trivial⟩), (.agg' ⟨.v, .v, .v, .v, .v, .v, .v, .v, .v, trivial⟩), trivial⟩ rfl rfl rfl) ?_
                                  refine RunT.gt0 (x := .v (.bool (!r43))) rfl rfl rfl (bo g42) rfl rfl (.un rfl (fun w => u_not w) rfl) ?_
                                  refine RunT.ot0 (x := .v (.bool (!r43))) rfl rfl rfl rfl (.pickT (bo g42) rfl) ?_
                                  refine RunT.ot0 (x := .v (.bool (!r43))) rfl rfl rfl rfl (.assignX rfl) ?_
                                  refine RunT.nil ?_
                                  obtain rfl := si H
                                  refine T.sub (sub_to (st' := ⟨[(0, .v (.bool (!r43)))], [], 8, []⟩) [] (by decide) rfl rfl (⟨⟨_, rfl, .one .v⟩, trivial⟩) (trivial)) ?_
                                  refine T.ret ?_
                                  exact RetOk.same [.v (.bool (!r43))] ⟨rfl, trivial⟩ rfl rfl rfl
                                · replace H := cf H g42
                                  refine RunT.xn rfl rfl rfl (bo g42) rfl rfl ?_
                                  refine RunT.xn rfl rfl rfl (bo g42) rfl rfl ?_
                                  refine RunT.xn rfl rfl rfl (bo g42) rfl rfl ?_
                                  refine RunT.xn rfl rfl rfl (bo g42) rfl rfl ?_
                                  refine RunT.ot0 (x := .v (.bool false)) rfl rfl rfl rfl (.pickF (bo g42) rfl) ?_
                                  refine RunT.ot0 (x := .v (.bool false)) rfl rfl rfl rfl (.assignX rfl) ?_
                                  refine RunT.nil ?_
                                  obtain rfl := si H
                                  refine T.sub (sub_to (st' := ⟨[(0, .v (.bool false))], [], 8, []⟩) [] (by decide) rfl rfl (⟨⟨_, rfl, .one .v⟩, trivial⟩) (trivial)) ?_
                                  refine T.ret ?_
                                  exact RetOk.same [.v (.bool false)] ⟨rfl, trivial⟩ rfl rfl rfl
                              · replace H := cf H g39
                                refine RunT.xn rfl rfl rfl (bo g39) rfl rfl ?_
                                refine RunT.xn rfl rfl rfl (bo g39) rfl rfl ?_
                                refine RunT.xn rfl rfl rfl (bo g39) rfl rfl ?_
                                refine RunT.ot0 (x := .v (.bool false)) rfl rfl rfl rfl (.pickF (bo g39) rfl) ?_
                                refine RunT.ot0 (x := .v (.bool false)) rfl rfl rfl rfl (.moveX rfl) ?_
                                refine RunT.xn rfl rfl rfl rfl rfl rfl ?_
                                refine RunT.xn rfl rfl rfl rfl rfl rfl ?_
                                refine RunT.xn rfl rfl rfl rfl rfl rfl ?_
                                refine RunT.xn rfl rfl rfl rfl rfl rfl ?_
                                refine RunT.ot0 (x := .v (.bool false)) rfl rfl rfl rfl (.pickF rfl rfl) ?_
                                refine RunT.ot0 (x := .v (.bool false)) rfl rfl rfl rfl (.assignX rfl) ?_
                                refine RunT.nil ?_
                                obtain rfl := si H
                                refine T.sub (sub_to (st' := ⟨[(0, .v (.bool false))], [], 8, []⟩) [] (by decide) rfl rfl (⟨⟨_, rfl, .one .v⟩, trivial⟩) (trivial)) ?_
                                refine T.ret ?_
                                exact RetOk.same [.v (.bool false)] ⟨rfl, trivial⟩ rfl rfl rfl
                            · replace H := cf H g36
                              refine RunT.xn rfl rfl rfl (bo g36) rfl rfl ?_
                              refine RunT.xn rfl rfl rfl (bo g36) rfl rfl ?_
                              refine RunT.xn rfl rfl rfl (bo g36) rfl rfl ?_
                              refine RunT.ot0 (x := .v (.bool false)) rfl rfl rfl rfl (.pickF (bo g36) rfl) ?_
                              refine RunT.ot0 (x := .v (.bool false)) rfl rfl rfl rfl (.moveX rfl) ?_
                              refine RunT.xn rfl rfl rfl rfl rfl rfl ?_
                              refine RunT.xn rfl rfl rfl rfl rfl rfl ?_
                              refine RunT.xn rfl rfl rfl rfl rfl rfl ?_
                              refine RunT.ot0 (x := .v (.bool false)) rfl rfl rfl rfl (.pickF rfl rfl) ?_
                              refine RunT.ot0 (x := .v (.bool false)) rfl rfl rfl rfl (.moveX rfl) ?_
                              refine RunT.xn rfl rfl rfl rfl rfl rfl ?_
                              refine RunT.xn rfl rfl rfl rfl rfl rfl ?_
                              refine RunT.xn rfl rfl rfl rfl rfl rfl ?_
                              refine RunT.xn rfl rfl rfl rfl rfl rfl ?_
                              refine RunT.ot0 (x := .v (.bool false)) rfl rfl rfl rfl (.pickF rfl rfl) ?_
                              refine RunT.ot0 (x := .v (.bool false)) rfl rfl rfl rfl (.assignX rfl) ?_
                              refine RunT.nil ?_
                              obtain rfl := si H
                              refine T.sub (sub_to (st' := ⟨[(0, .v (.bool false))], [], 8, []⟩) [] (by decide) rfl rfl (⟨⟨_, rfl, .one .v⟩, trivial⟩) (trivial)) ?_
                              refine T.ret ?_
                              exact RetOk.same [.v (.bool false)] ⟨rfl, trivial⟩ rfl rfl rfl
                          · replace H := cf H g33
                            refine RunT.xn rfl rfl rfl (bo g33) rfl rfl ?_
                            refine RunT.xn rfl rfl rfl (bo g33) rfl rfl ?_
                            refine RunT.ot0 (x := .v (.bool false)) rfl rfl rfl rfl (.pickF (bo g33) rfl) ?_
                            refine RunT.ot0 (x := .v (.bool false)) rfl rfl rfl rfl (.moveX rfl) ?_
                            refine RunT.xn rfl rfl rfl rfl rfl rfl ?_
                            refine RunT.xn rfl rfl rfl rfl rfl rfl ?_
                            refine RunT.xn rfl rfl rfl rfl rfl rfl ?_
                            refine RunT.ot0 (x := .v (.bool false)) rfl rfl rfl rfl (.pickF rfl rfl) ?_
                            refine RunT.ot0 (x := .v (.bool false)) rfl rfl rfl rfl (.moveX rfl) ?_
                            refine RunT.xn rfl rfl rfl rfl rfl rfl ?_
                            refine RunT.xn rfl rfl rfl rfl rfl rfl ?_
                            refine RunT.xn rfl rfl rfl rfl rfl rfl ?_
                            refine RunT.ot0 (x := .v (.bool false)) rfl rfl rfl rfl (.pickF rfl rfl) ?_
                            refine RunT.ot0 (x := .v (.bool false)) rfl rfl rfl rfl (.moveX rfl) ?_
                            refine RunT.xn rfl rfl rfl rfl rfl rfl ?_
                            refine RunT.xn rfl rfl rfl rfl rfl rfl ?_
                            refine RunT.xn rfl rfl rfl rfl rfl rfl ?_
                            refine RunT.xn rfl rfl rfl rfl rfl rfl ?_
                            refine RunT.ot0 (x := .v (.bool false)) rfl rfl rfl rfl (.pickF rfl rfl) ?_
                            refine RunT.ot0 (x := .v (.bool false)) rfl rfl rfl rfl (.assignX rfl) ?_
                            refine RunT.nil ?_
                            obtain rfl := si H
                            refine T.sub (sub_to (st' := ⟨[(0, .v (.bool false))], [], 8, []⟩) [] (by decide) rfl rfl (⟨⟨_, rfl, .one .v⟩, trivial⟩) (trivial)) ?_
                            refine T.ret ?_
                            exact RetOk.same [.v (.bool false)] ⟨rfl, trivial⟩ rfl rfl rfl
                        · replace H := cf H g32
                          refine RunT.xn rfl rfl rfl (bo g32) rfl rfl ?_
                          refine RunT.xn rfl rfl rfl (bo g32) rfl rfl ?_
                          refine RunT.ot0 (x := .v (.bool false)) rfl rfl rfl rfl (.pickF (bo g32) rfl) ?_
                          refine RunT.ot0 (x := .v (.bool false)) rfl rfl rfl rfl (.moveX rfl) ?_
                          refine RunT.xn rfl rfl rfl rfl rfl rfl ?_
                          refine RunT.xn rfl rfl rfl rfl rfl rfl ?_
                          refine RunT.ot0 (x := .v (.bool false)) rfl rfl rfl rfl (.pickF rfl rfl) ?_
                          refine RunT.ot0 (x := .v (.bool false)) rfl rfl rfl rfl (.moveX rfl) ?_
                          refine RunT.xn rfl rfl rfl rfl rfl rfl ?_
                          refine RunT.xn rfl rfl rfl rfl rfl rfl ?_
                          refine RunT.xn rfl rfl rfl rfl rfl rfl ?_
                          refine RunT.ot0 (x := .v (.bool false)) rfl rfl rfl rfl (.pickF rfl rfl) ?_
                          refine RunT.ot0 (x := .v (.bool false)) rfl rfl rfl rfl (.moveX rfl) ?_
                          refine RunT.xn rfl rfl rfl rfl rfl rfl ?_
                          refine RunT.xn rfl rfl rfl rfl rfl rfl ?_
                          refine RunT.xn rfl rfl rfl rfl rfl rfl ?_
                          refine RunT.ot0 (x := .v (.bool false)) rfl rfl rfl rfl (.pickF rfl rfl) ?_
                          refine RunT.ot0 (x := .v (.bool false)) rfl rfl rfl rfl (.moveX rfl) ?_
                          refine RunT.xn rfl rfl rfl rfl rfl rfl ?_
                          refine RunT.xn rfl rfl rfl rfl rfl rfl ?_
                          refine RunT.xn rfl rfl rfl rfl rfl rfl ?_
                          refine RunT.xn rfl rfl rfl rfl rfl rfl ?_
                          refine RunT.ot0 (x := .v (.bool false)) rfl rfl rfl rfl (.pickF rfl rfl) ?_
                          refine RunT.ot0 (x := .v (.bool false)) rfl rfl rfl rfl (.assignX rfl) ?_
                          refine RunT.nil ?_
                          obtain rfl := si H
                          refine T.sub (sub_to (st' := ⟨[(0, .v (.bool false))], [], 8, []⟩) [] (by decide) rfl rfl (⟨⟨_, rfl, .one .v⟩, trivial⟩) (trivial)) ?_
                          refine T.ret ?_
                          exact RetOk.same [.v (.bool false)] ⟨rfl, trivial⟩ rfl rfl rfl
                      · replace H := cf H g31
                        refine RunT.xn rfl rfl rfl (bo g31) rfl rfl ?_
                        refine RunT.xn rfl rfl rfl (bo g31) rfl rfl ?_
                        refine RunT.ot0 (x := .v (.bool false)) rfl rfl rfl rfl (.pickF (bo g31) rfl) ?_
                        refine RunT.ot0 (x := .v (.bool false)) rfl rfl rfl rfl (.moveX rfl) ?_
                        refine RunT.xn rfl rfl rfl rfl rfl rfl ?_
                        refine RunT.xn rfl rfl rfl rfl rfl rfl ?_
                        refine RunT.ot0 (x := .v (.bool false)) rfl rfl rfl rfl (.pickF rfl rfl) ?_
                        refine RunT.ot0 (x := .v (.bool false)) rfl rfl rfl rfl (.moveX rfl) ?_
                        refine RunT.xn rfl rfl rfl rfl rfl rfl ?_
                        refine RunT.xn rfl rfl rfl rfl rfl rfl ?_
                        refine RunT.ot0 (x := .v (.bool false)) rfl rfl rfl rfl (.pickF rfl rfl) ?_
                        refine RunT.ot0 (x := .v (.bool false)) rfl rfl rfl rfl (.moveX rfl) ?_
                        refine RunT.xn rfl rfl rfl rfl rfl rfl ?_
                        refine RunT.xn rfl rfl rfl rfl rfl rfl ?_
                        refine RunT.xn rfl rfl rfl rfl rfl rfl ?_
                        refine RunT.ot0 (x := .v (.bool false)) rfl rfl rfl rfl (.pickF rfl rfl) ?_
                        refine RunT.ot0 (x := .v (.bool false)) rfl rfl rfl rfl (.moveX rfl) ?_
                        refine RunT.xn rfl rfl rfl rfl rfl rfl ?_
                        refine RunT.xn rfl rfl rfl rfl rfl rfl ?_
                        refine RunT.xn rfl rfl rfl rfl rfl rfl ?_
                        refine RunT.ot0 (x := .v (.bool false)) rfl rfl rfl rfl (.pickF rfl rfl) ?_
                        refine RunT.ot0 (x := .v (.bool false)) rfl rfl rfl rfl (.moveX rfl) ?_
                        refine RunT.xn rfl rfl rfl rfl rfl rfl ?_
                        refine RunT.xn rfl rfl rfl rfl rfl rfl ?_
                        refine RunT.xn rfl rfl rfl rfl rfl rfl ?_
                        refine RunT.xn rfl rfl rfl rfl rfl rfl ?_
                        refine RunT.ot0 (x := .v (.bool false)) rfl rfl rfl rfl (.pickF rfl rfl) ?_
                        refine RunT.ot0 (x := .v (.bool false)) rfl rfl rfl rfl (.assignX rfl) ?_
                        refine RunT.nil ?_
                        obtain rfl := si H
                        refine T.sub (sub_to (st' := ⟨[(0, .v (.bool false))], [], 8, []⟩) [] (by decide) rfl rfl (⟨⟨_, rfl, .one .v⟩, trivial⟩) (trivial)) ?_
                        refine T.ret ?_
                        exact RetOk.same [.v (.bool false)] ⟨rfl, trivial⟩ rfl rfl rfl
                    · replace H := cf H g30
                      refine RunT.xn rfl rfl rfl (bo g30) rfl rfl ?_
                      refine RunT.xn rfl rfl rfl (bo g30) rfl rfl ?_
                      refine RunT.ot0 (x := .v (.bool false)) rfl rfl rfl rfl (.pickF (bo g30) rfl) ?_
                      refine RunT.ot0 (x := .v (.bool false)) rfl rfl rfl rfl (.moveX rfl) ?_
                      refine RunT.xn rfl rfl rfl rfl rfl rfl ?_
                      refine RunT.xn rfl rfl rfl rfl rfl rfl ?_
                      refine RunT.ot0 (x := .v (.bool false)) rfl rfl rfl rfl (.pickF rfl rfl) ?_
                      refine RunT.ot0 (x := .v (.bool false)) rfl rfl rfl rfl (.moveX rfl) ?_
                      refine RunT.xn rfl rfl rfl rfl rfl rfl ?_
                      refine RunT.xn rfl rfl rfl rfl rfl rfl ?_
                      refine RunT.ot0 (x := .v (.bool false)) rfl rfl rfl rfl (.pickF rfl rfl) ?_
                      refine RunT.ot0 (x := .v (.bool false)) rfl rfl rfl rfl (.moveX rfl) ?_
                      refine RunT.xn rfl rfl rfl rfl rfl rfl ?_
                      refine RunT.xn rfl rfl rfl rfl rfl rfl ?_
                      refine RunT.ot0 (x := .v (.bool false)) rfl rfl rfl rfl (.pickF rfl rfl) ?_
                      refine RunT.ot0 (x := .v (.bool false)) rfl rfl rfl rfl (.moveX rfl) ?_
                      refine RunT.xn rfl rfl rfl rfl rfl rfl ?_
                      refine RunT.xn rfl rfl rfl rfl rfl rfl ?_
                      refine RunT.xn rfl rfl rfl rfl rfl rfl ?_
                      refine RunT.ot0 (x := .v (.bool false)) rfl rfl rfl rfl (.pickF rfl rfl) ?_
                      refine RunT.ot0 (x := .v (.bool false)) rfl rfl rfl rfl (.moveX rfl) ?_
                      refine RunT.xn rfl rfl rfl rfl rfl rfl ?_
                      refine RunT.xn rfl rfl rfl rfl rfl rfl ?_
                      refine RunT.xn rfl rfl rfl rfl rfl rfl ?_
                      refine RunT.ot0 (x := .v (.bool false)) rfl rfl rfl rfl (.pickF rfl rfl) ?_
                      refine RunT.ot0 (x := .v (.bool false)) rfl rfl rfl rfl (.moveX rfl) ?_
                      refine RunT.xn rfl rfl rfl rfl rfl rfl ?_
                      refine RunT.xn rfl rfl rfl rfl rfl rfl ?_
                      refine RunT.xn rfl rfl rfl rfl rfl rfl ?_
                      refine RunT.xn rfl rfl rfl rfl rfl rfl ?_
                      refine RunT.ot0 (x := .v (.bool false)) rfl rfl rfl rfl (.pickF rfl rfl) ?_
                      refine RunT.ot0 (x := .v (.bool false)) rfl rfl rfl rfl (.assignX rfl) ?_
                      refine RunT.nil ?_
                      obtain rfl := si H
                      refine T.sub (sub_to (st' := ⟨[(0, .v (.bool false))], [], 8, []⟩) [] (by decide) rfl rfl (⟨⟨_, rfl, .one .v⟩, trivial⟩) (trivial)) ?_
                      refine T.ret ?_
                      exact RetOk.same [.v (.bool false)] ⟨rfl, trivial⟩ rfl rfl rfl
                  · replace H := cf H g29
                    refine RunT.xn rfl rfl rfl (bo g29) rfl rfl ?_
                    refine RunT.xn rfl rfl rfl (bo g29) rfl rfl ?_
                    refine RunT.xn rfl rfl rfl (bo g29) rfl rfl ?_
                    refine RunT.ot0 (x := .v (.bool false)) rfl rfl rfl rfl (.pickF (bo g29) rfl) ?_
                    refine RunT.ot0 (x := .v (.bool false)) rfl rfl rfl rfl (.moveX rfl) ?_
                    refine RunT.xn rfl rfl rfl rfl rfl rfl ?_
                    refine RunT.xn rfl rfl rfl rfl rfl rfl ?_
                    refine RunT.ot0 (x := .v (.bool false)) rfl rfl rfl rfl (.pickF rfl rfl) ?_
                    refine RunT.ot0 (x := .v (.bool false)) rfl rfl rfl rfl (.moveX rfl) ?_
                    refine RunT.xn rfl rfl rfl rfl rfl rfl ?_
                    refine RunT.xn rfl rfl rfl rfl rfl rfl ?_
                    refine RunT.ot0 (x := .v (.bool false)) rfl rfl rfl rfl (.pickF rfl rfl) ?_
                    refine RunT.ot0 (x := .v (.bool false)) rfl rfl rfl rfl (.moveX rfl) ?_
                    refine RunT.xn rfl rfl rfl rfl rfl rfl ?_
                    refine RunT.xn rfl rfl rfl rfl rfl rfl ?_
                    refine RunT.ot0 (x := .v (.bool false)) rfl rfl rfl rfl (.pickF rfl rfl) ?_
                    refine RunT.ot0 (x := .v (.bool false)) rfl rfl rfl rfl (.moveX rfl) ?_
                    refine RunT.xn rfl rfl rfl rfl rfl rfl ?_
                    refine RunT.xn rfl rfl rfl rfl rfl rfl ?_
                    refine RunT.ot0 (x := .v (.bool false)) rfl rfl rfl rfl (.pickF rfl rfl) ?_
                    refine RunT.ot0 (x := .v (.bool false)) rfl rfl rfl rfl (.moveX rfl) ?_
                    refine RunT.xn rfl rfl rfl rfl rfl rfl ?_
                    refine RunT.xn rfl rfl rfl rfl rfl rfl ?_
                    refine RunT.xn rfl rfl rfl rfl rfl rfl ?_
                    refine RunT.ot0 (x := .v (.bool false)) rfl rfl rfl rfl (.pickF rfl rfl) ?_
                    refine RunT.ot0 (x := .v (.bool false)) rfl rfl rfl rfl (.moveX rfl) ?_
                    refine RunT.xn rfl rfl rfl rfl rfl rfl ?_
                    refine RunT.xn rfl rfl rfl rfl rfl rfl ?_
                    refine RunT.xn rfl rfl rfl rfl rfl rfl ?_
                    refine RunT.ot0 (x := .v (.bool false)) rfl rfl rfl rfl (.pickF rfl rfl) ?_
                    refine RunT.ot0 (x := .v (.bool false)) rfl rfl rfl rfl (.moveX rfl) ?_
                    refine RunT.xn rfl rfl rfl rfl rfl rfl ?_
                    refine RunT.xn rfl rfl rfl rfl rfl rfl ?_
                    refine RunT.xn rfl rfl rfl rfl rfl rfl ?_
                    refine RunT.xn rfl rfl rfl rfl rfl rfl ?_
                    refine RunT.ot0 (x := .v (.bool false)) rfl rfl rfl rfl (.pickF rfl rfl) ?_
                    refine RunT.ot0 (x := .v (.bool false)) rfl rfl rfl rfl (.assignX rfl) ?_
                    refine RunT.nil ?_
                    obtain rfl := si H
                    refine T.sub (sub_to (st' := ⟨[(0, .v (.bool false))], [], 8, []⟩) [] (by decide) rfl rfl (⟨⟨_, rfl, .one .v⟩, trivial⟩) (trivial)) ?_
                    refine T.ret ?_
                    exact RetOk.same [.v (.bool false)] ⟨rfl, trivial⟩ rfl rfl rfl
                · replace H := cf H g28
                  refine RunT.xn rfl rfl rfl (bo g28) rfl rfl ?_
                  refine RunT.xn rfl rfl rfl (bo g28) rfl rfl ?_
                  refine RunT.ot0 (x := .v (.bool false)) rfl rfl rfl rfl (.pickF (bo g28) rfl) ?_
                  refine RunT.ot0 (x := .v (.bool false)) rfl rfl rfl rfl (.moveX rfl) ?_
                  refine RunT.xn rfl rfl rfl rfl rfl rfl ?_
                  refine RunT.xn rfl rfl rfl rfl rfl rfl ?_
                  refine RunT.xn rfl rfl rfl rfl rfl rfl ?_
                  refine RunT.ot0 (x := .v (.bool false)) rfl rfl rfl rfl (.pickF rfl rfl) ?_
                  refine RunT.ot0 (x := .v (.bool false)) rfl rfl rfl rfl (.moveX rfl) ?_
                  refine RunT.xn rfl rfl rfl rfl rfl rfl ?_
                  refine RunT.xn rfl rfl rfl rfl rfl rfl ?_
                  refine RunT.ot0 (x := .v (.bool false)) rfl rfl rfl rfl (.pickF rfl rfl) ?_
                  refine RunT.ot0 (x := .v (.bool false)) rfl rfl rfl rfl (.moveX rfl) ?_
                  refine RunT.xn rfl rfl rfl rfl rfl rfl ?_
                  refine RunT.xn rfl rfl rfl rfl rfl rfl ?_
                  refine RunT.ot0 (x := .v (.bool false)) rfl rfl rfl rfl (.pickF rfl rfl) ?_
                  refine RunT.ot0 (x := .v (.bool false)) rfl rfl rfl rfl (.moveX rfl) ?_
                  refine RunT.xn rfl rfl rfl rfl rfl rfl ?_
                  refine RunT.xn rfl rfl rfl rfl rfl rfl ?_
                  refine RunT.ot0 (x := .v (.bool false)) rfl rfl rfl rfl (.pickF rfl rfl) ?_
                  refine RunT.ot0 (x := .v (.bool false)) rfl rfl rfl rfl (.moveX rfl) ?_
                  refine RunT.xn rfl rfl rfl rfl rfl rfl ?_
                  refine RunT.xn rfl rfl rfl rfl rfl rfl ?_
                  refine RunT.ot0 (x := .v (.bool false)) rfl rfl rfl rfl (.pickF rfl rfl) ?_
                  refine RunT.ot0 (x := .v (.bool false)) rfl rfl rfl rfl (.moveX rfl) ?_
                  refine RunT.xn rfl rfl rfl rfl rfl rfl ?_
                  refine RunT.xn rfl rfl rfl rfl rfl rfl ?_
                  refine RunT.xn rfl rfl rfl rfl rfl rfl ?_
                  refine RunT.ot0 (x := .v (.bool false)) rfl rfl rfl rfl (.pickF rfl rfl) ?_
                  refine RunT.ot0 (x := .v (.bool false)) rfl rfl rfl rfl (.moveX rfl) ?_
                  refine RunT.xn rfl rfl rfl rfl rfl rfl ?_
                  refine RunT.xn rfl rfl rfl rfl rfl rfl ?_
                  refine RunT.xn rfl rfl rfl rfl rfl rfl ?_
                  refine RunT.ot0 (x := .v (.bool false)) rfl rfl rfl rfl (.pickF rfl rfl) ?_
                  refine RunT.ot0 (x := .v (.bool false)) rfl rfl rfl rfl (.moveX rfl) ?_
                  refine RunT.xn rfl rfl rfl rfl rfl rfl ?_
                  refine RunT.xn rfl rfl rfl rfl rfl rfl ?_
                  refine RunT.xn rfl rfl rfl rfl rfl rfl ?_
                  refine RunT.xn rfl rfl rfl rfl rfl rfl ?_
                  refine RunT.ot0 (x := .v (.bool false)) rfl rfl rfl rfl (.pickF rfl rfl) ?_
                  refine RunT.ot0 (x := .v (.bool false)) rfl rfl rfl rfl (.assignX rfl) ?_
                  refine RunT.nil ?_
                  obtain rfl := si H
                  refine T.sub (sub_to (st' := ⟨[(0, .v (.bool false))], [], 8, []⟩) [] (by decide) rfl rfl (⟨⟨_, rfl, .one .v⟩, trivial⟩) (trivial)) ?_
                  refine T.ret ?_
                  exact RetOk.same [.v (.bool false)] ⟨rfl, trivial⟩ rfl rfl rfl
              · replace H := cf H g27
                refine RunT.xn rfl rfl rfl (bo g27) rfl rfl ?_
                refine RunT.xn rfl rfl rfl (bo g27) rfl rfl ?_
                refine RunT.xn rfl rfl rfl (bo g27) rfl rfl ?_
                refine RunT.ot0 (x := .v (.bool false)) rfl rfl rfl rfl (.pickF (bo g27) rfl) ?_
                refine RunT.ot0 (x := .v (.bool false)) rfl rfl rfl rfl (.moveX rfl) ?_
                refine RunT.xn rfl rfl rfl rfl rfl rfl ?_
                refine RunT.xn rfl rfl rfl rfl rfl rfl ?_
                refine RunT.ot0 (x := .v (.bool false)) rfl rfl rfl rfl (.pickF rfl rfl) ?_
                refine RunT.ot0 (x := .v (.bool false)) rfl rfl rfl rfl (.moveX rfl) ?_
                refine RunT.xn rfl rfl rfl rfl rfl rfl ?_
                refine RunT.xn rfl rfl rfl rfl rfl rfl ?_
                refine RunT.xn rfl rfl rfl rfl rfl rfl ?_
                refine RunT.ot0 (x := .v (.bool false)) rfl rfl rfl rfl (.pickF rfl rfl) ?_
                refine RunT.ot0 (x := .v (.bool false)) rfl rfl rfl rfl (.moveX rfl) ?_
                refine RunT.xn rfl rfl rfl rfl rfl rfl ?_
                refine RunT.xn rfl rfl rfl rfl rfl rfl ?_
                refine RunT.ot0 (x := .v (.bool false)) rfl rfl rfl rfl (.pickF rfl rfl) ?_
                refine RunT.ot0 (x := .v (.bool false)) rfl rfl rfl rfl (.moveX rfl) ?_
                refine RunT.xn rfl rfl rfl rfl rfl rfl ?_
                refine RunT.xn rfl rfl rfl rfl rfl rfl ?_
                refine RunT.ot0 (x := .v (.bool false)) rfl rfl rfl rfl (.pickF rfl rfl) ?_
                refine RunT.ot0 (x := .v (.bool false)) rfl rfl rfl rfl (.moveX rfl) ?_
                refine RunT.xn rfl rfl rfl rfl rfl rfl ?_
                refine RunT.xn rfl rfl rfl rfl rfl rfl ?_
                refine RunT.ot0 (x := .v (.bool false)) rfl rfl rfl rfl (.pickF rfl rfl) ?_
                refine RunT.ot0 (x := .v (.bool false)) rfl rfl rfl rfl (.moveX rfl) ?_
                refine RunT.xn rfl rfl rfl rfl rfl rfl ?_
                refine RunT.xn rfl rfl rfl rfl rfl rfl ?_
                refine RunT.ot0 (x := .v (.bool false)) rfl rfl rfl rfl (.pickF rfl rfl) ?_
                refine RunT.ot0 (x := .v (.bool false)) rfl rfl rfl rfl (.moveX rfl) ?_
                refine RunT.xn rfl rfl rfl rfl rfl rfl ?_
                refine RunT.xn rfl rfl rfl rfl rfl rfl ?_
                refine RunT.xn rfl rfl rfl rfl rfl rfl ?_
                refine RunT.ot0 (x := .v (.bool false)) rfl rfl rfl rfl (.pickF rfl rfl) ?_
                refine RunT.ot0 (x := .v (.bool false)) rfl rfl rfl rfl (.moveX rfl) ?_
                refine RunT.xn rfl rfl rfl rfl rfl rfl ?_
                refine RunT.xn rfl rfl rfl rfl rfl rfl ?_
                refine RunT.xn rfl rfl rfl rfl rfl rfl ?_
                refine RunT.ot0 (x := .v (.bool false)) rfl rfl rfl rfl (.pickF rfl rfl) ?_
                refine RunT.ot0 (x := .v (.bool false)) rfl rfl rfl rfl (.moveX rfl) ?_
                refine RunT.xn rfl rfl rfl rfl rfl rfl ?_
                refine RunT.xn rfl rfl rfl rfl rfl rfl ?_
                refine RunT.xn rfl rfl rfl rfl rfl rfl ?_
                refine RunT.xn rfl rfl rfl rfl rfl rfl ?_
                refine RunT.ot0 (x := .v (.bool false)) rfl rfl rfl rfl (.pickF rfl rfl) ?_
                refine RunT.ot0 (x := .v (.bool false)) rfl rfl rfl rfl (.assignX rfl) ?_
                refine RunT.nil ?_
                obtain rfl := si H
                refine T.sub (sub_to (st' := ⟨[(0, .v (.bool false))], [], 8, []⟩) [] (by decide) rfl rfl (⟨⟨_, rfl, .one .v⟩, trivial⟩) (trivial)) ?_
                refine T.ret ?_
                exact RetOk.same [.v (.bool false)] ⟨rfl, trivial⟩ rfl rfl rfl
            · replace H := cf H g26
              refine RunT.xn rfl rfl rfl (bo g26) rfl rfl ?_
              refine RunT.xn rfl rfl rfl (bo g26) rfl rfl ?_
              refine RunT.ot0 (x := .v (.bool false)) rfl rfl rfl rfl (.pickF (bo g26) rfl) ?_
              refine RunT.ot0 (x := .v (.bool false)) rfl rfl rfl rfl (.moveX rfl) ?_
              refine RunT.xn rfl rfl rfl rfl rfl rfl ?_
              refine RunT.xn rfl rfl rfl rfl rfl rfl ?_
              refine RunT.xn rfl rfl rfl rfl rfl rfl ?_
              refine RunT.ot0 (x := .v (.bool false)) rfl rfl rfl rfl (.pickF rfl rfl) ?_
              refine RunT.ot0 (x := .v (.bool false)) rfl rfl rfl rfl (.moveX rfl) ?_
              refine RunT.xn rfl rfl rfl rfl rfl rfl ?_
              refine RunT.xn rfl rfl rfl rfl rfl rfl ?_
              refine RunT.ot0 (x := .v (.bool false)) rfl rfl rfl rfl (.pickF rfl rfl) ?_
              refine RunT.ot0 (x := .v (.bool false)) rfl rfl rfl rfl (.moveX rfl) ?_
              refine RunT.xn rfl rfl rfl rfl rfl rfl ?_
              refine RunT.xn rfl rfl rfl rfl rfl rfl ?_
              refine RunT.xn rfl rfl rfl rfl rfl rfl ?_
              refine RunT.ot0 (x := .v (.bool false)) rfl rfl rfl rfl (.pickF rfl rfl) ?_
              refine RunT.ot0 (x := .v (.bool false)) rfl rfl rfl rfl (.moveX rfl) ?_
              refine RunT.xn rfl rfl rfl rfl rfl rfl ?_
              refine RunT.xn rfl rfl rfl rfl rfl rfl ?_
              refine RunT.ot0 (x := .v (.bool false)) rfl rfl rfl rfl (.pickF rfl rfl) ?_
              refine RunT.ot0 (x := .v (.bool false)) rfl rfl rfl rfl (.moveX rfl) ?_
              refine RunT.xn rfl rfl rfl rfl rfl rfl ?_
              refine RunT.xn rfl rfl rfl rfl rfl rfl ?_
              refine RunT.ot0 (x := .v (.bool false)) rfl rfl rfl rfl (.pickF rfl rfl) ?_
              refine RunT.ot0 (x := .v (.bool false)) rfl rfl rfl rfl (.moveX rfl) ?_
              refine RunT.xn rfl rfl rfl rfl rfl rfl ?_
              refine RunT.xn rfl rfl rfl rfl rfl rfl ?_
              refine RunT.ot0 (x := .v (.bool false)) rfl rfl rfl rfl (.pickF rfl rfl) ?_
              refine RunT.ot0 (x := .v (.bool false)) rfl rfl rfl rfl (.moveX rfl) ?_
              refine RunT.xn rfl rfl rfl rfl rfl rfl ?_
              refine RunT.xn rfl rfl rfl rfl rfl rfl ?_
              refine RunT.ot0 (x := .v (.bool false)) rfl rfl rfl rfl (.pickF rfl rfl) ?_
              refine RunT.ot0 (x := .v (.bool false)) rfl rfl rfl rfl (.moveX rfl) ?_
              refine RunT.xn rfl rfl rfl rfl rfl rfl ?_
              refine RunT.xn rfl rfl rfl rfl rfl rfl ?_
              refine RunT.xn rfl rfl rfl rfl rfl rfl ?_
              refine RunT.ot0 (x := .v (.bool false)) rfl rfl rfl rfl (.pickF rfl rfl) ?_
              refine RunT.ot0 (x := .v (.bool false)) rfl rfl rfl rfl (.moveX rfl) ?_
              refine RunT.xn rfl rfl rfl rfl rfl rfl ?_
              refine RunT.xn rfl rfl rfl rfl rfl rfl ?_
              refine RunT.xn rfl rfl rfl rfl rfl rfl ?_
              refine RunT.ot0 (x := .v (.bool false)) rfl rfl rfl rfl (.pickF rfl rfl) ?_
              refine RunT.ot0 (x := .v (.bool false)) rfl rfl rfl rfl (.moveX rfl) ?_
              refine RunT.xn rfl rfl rfl rfl rfl rfl ?_
              refine RunT.xn rfl rfl rfl rfl rfl rfl ?_
              refine RunT.xn rfl rfl rfl rfl rfl rfl ?_
              refine RunT.xn rfl rfl rfl rfl rfl rfl ?_
              refine RunT.ot0 (x := .v (.bool false)) rfl rfl rfl rfl (.pickF rfl rfl) ?_
              refine RunT.ot0 (x := .v (.bool false)) rfl rfl rfl rfl (.assignX rfl) ?_
              refine RunT.nil ?_
              obtain rfl := si H
              refine T.sub (sub_to (st' := ⟨[(0, .v (.bool false))], [], 8, []⟩) [] (by decide) rfl rfl (⟨⟨_, rfl, .one .v⟩, trivial⟩) (trivial)) ?_
              refine T.ret ?_
              exact RetOk.same [.v (.bool false)] ⟨rfl, trivial⟩ rfl rfl rfl
          · replace H := cf H g23
            refine RunT.xn rfl rfl rfl (bo g23) rfl rfl ?_
            refine RunT.xn rfl rfl rfl (bo g23) rfl rfl ?_
            refine RunT.xn rfl rfl rfl (bo g23) rfl rfl ?_
            refine RunT.xn rfl rfl rfl (bo g23) rfl rfl ?_
            refine RunT.ot0 (x := .v (.bool false)) rfl rfl rfl rfl (.pickF (bo g23) rfl) ?_
            refine RunT.ot0 (x := .v (.bool false)) rfl rfl rfl rfl (.moveX rfl) ?_
            refine RunT.xn rfl rfl rfl rfl rfl rfl ?_
            refine RunT.xn rfl rfl rfl rfl rfl rfl ?_
            refine RunT.ot0 (x := .v (.bool false)) rfl rfl rfl rfl (.pickF rfl rfl) ?_
            refine RunT.ot0 (x := .v (.bool false)) rfl rfl rfl rfl (.moveX rfl) ?_
            refine RunT.xn rfl rfl rfl rfl rfl rfl ?_
            refine RunT.xn rfl rfl rfl rfl rfl rfl ?_
            refine RunT.xn rfl rfl rfl rfl rfl rfl ?_
            refine RunT.ot0 (x := .v (.bool false)) rfl rfl rfl rfl (.pickF rfl rfl) ?_
            refine RunT.ot0 (x := .v (.bool false)) rfl rfl rfl rfl (.moveX rfl) ?_
            refine RunT.xn rfl rfl rfl rfl rfl rfl ?_
            refine RunT.xn rfl rfl rfl rfl rfl rfl ?_
            refine RunT.ot0 (x := .v (.bool false)) rfl rfl rfl rfl (.pickF rfl rfl) ?_
            refine RunT.ot0 (x := .v (.bool false)) rfl rfl rfl rfl (.moveX rfl) ?_
            refine RunT.xn rfl rfl rfl rfl rfl rfl ?_
            refine RunT.xn rfl rfl rfl rfl rfl rfl ?_
            refine RunT.xn rfl rfl rfl rfl rfl rfl ?_
            refine RunT.ot0 (x := .v (.bool false)) rfl rfl rfl rfl (.pickF rfl rfl) ?_
            refine RunT.ot0 (x := .v (.bool false)) rfl rfl rfl rfl (.moveX rfl) ?_
            refine RunT.xn rfl rfl rfl rfl rfl rfl ?_
            refine RunT.xn rfl rfl rfl rfl rfl rfl ?_
            refine RunT.ot0 (x := .v (.bool false)) rfl rfl rfl rfl (.pickF rfl rfl) ?_
            refine RunT.ot0 (x := .v (.bool false)) rfl rfl rfl rfl (.moveX rfl) ?_
            refine RunT.xn rfl rfl rfl rfl rfl rfl ?_
            refine RunT.xn rfl rfl rfl rfl rfl rfl ?_
            refine RunT.ot0 (x := .v (.bool false)) rfl rfl rfl rfl (.pickF rfl rfl) ?_
            refine RunT.ot0 (x := .v (.bool false)) rfl rfl rfl rfl (.moveX rfl) ?_
            refine RunT.xn rfl rfl rfl rfl rfl rfl ?_
            refine RunT.xn rfl rfl rfl rfl rfl rfl ?_
            refine RunT.ot0 (x := .v (.bool false)) rfl rfl rfl rfl (.pickF rfl rfl) ?_
            refine RunT.ot0 (x := .v (.bool false)) rfl rfl rfl rfl (.moveX rfl) ?_
            refine RunT.xn rfl rfl rfl rfl rfl rfl ?_
            refine RunT.xn rfl rfl rfl rfl rfl rfl ?_
            refine RunT.ot0 (x := .v (.bool false)) rfl rfl rfl rfl (.pickF rfl rfl) ?_
            refine RunT.ot0 (x := .v (.bool false)) rfl rfl rfl rfl (.moveX rfl) ?_
            refine RunT.xn rfl rfl rfl rfl rfl rfl ?_
            refine RunT.xn rfl rfl rfl rfl rfl rfl ?_
            refine RunT.xn rfl rfl rfl rfl rfl rfl ?_
            refine RunT.ot0 (x := .v (.bool false)) rfl rfl rfl rfl (.pickF rfl rfl) ?_
            refine RunT.ot0 (x := .v (.bool false)) rfl rfl rfl rfl (.moveX rfl) ?_
            refine RunT.xn rfl rfl rfl rfl rfl rfl ?_
            refine RunT.xn rfl rfl rfl rfl rfl rfl ?_
            refine RunT.xn rfl rfl rfl rfl rfl rfl ?_
            refine RunT.ot0 (x := .v (.bool false)) rfl rfl rfl rfl (.pickF rfl rfl) ?_
            refine RunT.ot0 (x := .v (.bool false)) rfl rfl rfl rfl (.moveX rfl) ?_
            refine RunT.xn rfl rfl rfl rfl rfl rfl ?_
            refine RunT.xn rfl rfl rfl rfl rfl rfl ?_
            refine RunT.xn rfl rfl rfl rfl rfl rfl ?_
            refine RunT.xn rfl rfl rfl rfl rfl rfl ?_
            refine RunT.ot0 (x := .v (.bool false)) rfl rfl rfl rfl (.pickF rfl rfl) ?_
            refine RunT.ot0 (x := .v (.bool false)) rfl rfl rfl rfl (.assignX rfl) ?_
            refine RunT.nil ?_
            obtain rfl := si H
            refine T.sub (sub_to (st' := ⟨[(0, .v (.bool false))], [], 8, []⟩) [] (by decide) rfl rfl (⟨⟨_, rfl, .one .v⟩, trivial⟩) (trivial)) ?_
            refine T.ret ?_
            exact RetOk.same [.v (.bool false)] ⟨rfl, trivial⟩ rfl rfl rfl
        · replace H := cf H g20
          refine RunT.xn rfl rfl rfl (bo g20) rfl rfl ?_
          refine RunT.xn rfl rfl rfl (bo g20) rfl rfl ?_
          refine RunT.xn rfl rfl rfl (bo g20) rfl rfl ?_
          refine RunT.xn rfl rfl rfl (bo g20) rfl rfl ?_
          refine RunT.ot0 (x := .v (.bool false)) rfl rfl rfl rfl (.pickF (bo g20) rfl) ?_
          refine RunT.ot0 (x := .v (.bool false)) rfl rfl rfl rfl (.moveX rfl) ?_
          refine RunT.xn rfl rfl rfl rfl rfl rfl ?_
          refine RunT.xn rfl rfl rfl rfl rfl rfl ?_
          refine RunT.xn rfl rfl rfl rfl rfl rfl ?_
          refine RunT.xn rfl rfl rfl rfl rfl rfl ?_
          refine RunT.ot0 (x := .v (.bool false)) rfl rfl rfl rfl (.pickF rfl rfl) ?_
          refine RunT.ot0 (x := .v (.bool false)) rfl rfl rfl rfl (.moveX rfl) ?_
          refine RunT.xn rfl rfl rfl rfl rfl rfl ?_
          refine RunT.xn rfl rfl rfl rfl rfl rfl ?_
          refine RunT.ot0 (x := .v (.bool false)) rfl rfl rfl rfl (.pickF rfl rfl) ?_
          refine RunT.ot0 (x := .v (.bool false)) rfl rfl rfl rfl (.moveX rfl) ?_
          refine RunT.xn rfl rfl rfl rfl rfl rfl ?_
          refine RunT.xn rfl rfl rfl rfl rfl rfl ?_
          refine RunT.xn rfl rfl rfl rfl rfl rfl ?_
          refine RunT.ot0 (x := .v (.bool false)) rfl rfl rfl rfl (.pickF rfl rfl) ?_
          refine RunT.ot0 (x := .v (.bool false)) rfl rfl rfl rfl (.moveX rfl) ?_
          refine RunT.xn rfl rfl rfl rfl rfl rfl ?_
          refine RunT.xn rfl rfl rfl rfl rfl rfl ?_
          refine RunT.ot0 (x := .v (.bool false)) rfl rfl rfl rfl (.pickF rfl rfl) ?_
          refine RunT.ot0 (x := .v (.bool false)) rfl rfl rfl rfl (.moveX rfl) ?_
          refine RunT.xn rfl rfl rfl rfl rfl rfl ?_
          refine RunT.xn rfl rfl rfl rfl rfl rfl ?_
          refine RunT.xn rfl rfl rfl rfl rfl rfl ?_
          refine RunT.ot0 (x := .v (.bool false)) rfl rfl rfl rfl (.pickF rfl rfl) ?_
          refine RunT.ot0 (x := .v (.bool false)) rfl rfl rfl rfl (.moveX rfl) ?_
          refine RunT.xn rfl rfl rfl rfl rfl rfl ?_
          refine RunT.xn rfl rfl rfl rfl rfl rfl ?_
          refine RunT.ot0 (x := .v (.bool false)) rfl rfl rfl rfl (.pickF rfl rfl) ?_
          refine RunT.ot0 (x := .v (.bool false)) rfl rfl rfl rfl (.moveX rfl) ?_
          refine RunT.xn rfl rfl rfl rfl rfl rfl ?_
          refine RunT.xn rfl rfl rfl rfl rfl rfl ?_
          refine RunT.ot0 (x := .v (.bool false)) rfl rfl rfl rfl (.pickF rfl rfl) ?_
          refine RunT.ot0 (x := .v (.bool false)) rfl rfl rfl rfl (.moveX rfl) ?_
          refine RunT.xn rfl rfl rfl rfl rfl rfl ?_
          refine RunT.xn rfl rfl rfl rfl rfl rfl ?_
          refine RunT.ot0 (x := .v (.bool false)) rfl rfl rfl rfl (.pickF rfl rfl) ?_
          refine RunT.ot0 (x := .v (.bool false)) rfl rfl rfl rfl (.moveX rfl) ?_
          refine RunT.xn rfl rfl rfl rfl rfl rfl ?_
          refine RunT.xn rfl rfl rfl rfl rfl rfl ?_
          refine RunT.ot0 (x := .v (.bool false)) rfl rfl rfl rfl (.pickF rfl rfl) ?_
          refine RunT.ot0 (x := .v (.bool false)) rfl rfl rfl rfl (.moveX rfl) ?_
          refine RunT.xn rfl rfl rfl rfl rfl rfl ?_
          refine RunT.xn rfl rfl rfl rfl rfl rfl ?_
          refine RunT.xn rfl rfl rfl rfl rfl rfl ?_
          refine RunT.ot0 (x := .v (.bool false)) rfl rfl rfl rfl (.pickF rfl rfl) ?_
          refine RunT.ot0 (x := .v (.bool false)) rfl rfl rfl rfl (.moveX rfl) ?_
          refine RunT.xn rfl rfl rfl rfl rfl rfl ?_
          refine RunT.xn rfl rfl rfl rfl rfl rfl ?_
          refine RunT.xn rfl rfl rfl rfl rfl rfl ?_
          refine RunT.ot0 (x := .v (.bool false)) rfl rfl rfl rfl (.pickF rfl rfl) ?_
          refine RunT.ot0 (x := .v (.bool false)) rfl rfl rfl rfl (.moveX rfl) ?_
          refine RunT.xn rfl rfl rfl rfl rfl rfl ?_
          refine RunT.xn rfl rfl rfl rfl rfl rfl ?_
          refine RunT.xn rfl rfl rfl rfl rfl rfl ?_
          refine RunT.xn rfl rfl rfl rfl rfl rfl ?_
          refine RunT.ot0 (x := .v (.bool false)) rfl rfl rfl rfl (.pickF rfl rfl) ?_
          refine RunT.ot0 (x := .v (.bool false)) rfl rfl rfl rfl (.assignX rfl) ?_
          refine RunT.nil ?_
          obtain rfl := si H
          refine T.sub (sub_to (st' := ⟨[(0, .v (.bool false))], [], 8, []⟩) [] (by decide) rfl rfl (⟨⟨_, rfl, .one .v⟩, trivial⟩) (trivial)) ?_
          refine T.ret ?_
          exact RetOk.same [.v (.bool false)] ⟨rfl, trivial⟩ rfl rfl rfl
      · replace H := cf H g17
        refine RunT.xn rfl rfl rfl (bo g17) rfl rfl ?_
        refine RunT.xn rfl rfl rfl (bo g17) rfl rfl ?_
        refine RunT.xn rfl rfl rfl (bo g17) rfl rfl ?_
        refine RunT.xn rfl rfl rfl (bo g17) rfl rfl ?_
        refine RunT.ot0 (x := .v (.bool false)) rfl rfl rfl rfl (.pickF (bo g17) rfl) ?_
        refine RunT.ot0 (x := .v (.bool false)) rfl rfl rfl rfl (.moveX rfl) ?_
        refine RunT.xn rfl rfl rfl rfl rfl rfl ?_
        refine RunT.xn rfl rfl rfl rfl rfl rfl ?_
        refine RunT.xn rfl rfl rfl rfl rfl rfl ?_
        refine RunT.xn rfl rfl rfl rfl rfl rfl ?_
        refine RunT.ot0 (x := .v (.bool false)) rfl rfl rfl rfl (.pickF rfl rfl) ?_
        refine RunT.ot0 (x := .v (.bool false)) rfl rfl rfl rfl (.moveX rfl) ?_
        refine RunT.xn rfl rfl rfl rfl rfl rfl ?_
        refine RunT.xn rfl rfl rfl rfl rfl rfl ?_
        refine RunT.xn rfl rfl rfl rfl rfl rfl ?_
        refine RunT.xn rfl rfl rfl rfl rfl rfl ?_
        refine RunT.ot0 (x := .v (.bool false)) rfl rfl rfl rfl (.pickF rfl rfl) ?_
        refine RunT.ot0 (x := .v (.bool false)) rfl rfl rfl rfl (.moveX rfl) ?_
        refine RunT.xn rfl rfl rfl rfl rfl rfl ?_
        refine RunT.xn rfl rfl rfl rfl rfl rfl ?_
        refine RunT.ot0 (x := .v (.bool false)) rfl rfl rfl rfl (.pickF rfl rfl) ?_
        refine RunT.ot0 (x := .v (.bool false)) rfl rfl rfl rfl (.moveX rfl) ?_
        refine RunT.xn rfl rfl rfl rfl rfl rfl ?_
        refine RunT.xn rfl rfl rfl rfl rfl rfl ?_
        refine RunT.xn rfl rfl rfl rfl rfl rfl ?_
        refine RunT.ot0 (x := .v (.bool false)) rfl rfl rfl rfl (.pickF rfl rfl) ?_
        refine RunT.ot0 (x := .v (.bool false)) rfl rfl rfl rfl (.moveX rfl) ?_
        refine RunT.xn rfl rfl rfl rfl rfl rfl ?_
        refine RunT.xn rfl rfl rfl rfl rfl rfl ?_
        refine RunT.ot0 (x := .v (.bool false)) rfl rfl rfl rfl (.pickF rfl rfl) ?_
        refine RunT.ot0 (x := .v (.bool false)) rfl rfl rfl rfl (.moveX rfl) ?_
        refine RunT.xn rfl rfl rfl rfl rfl rfl ?_
        refine RunT.xn rfl rfl rfl rfl rfl rfl ?_
        refine RunT.xn rfl rfl rfl rfl rfl rfl ?_
        refine RunT.ot0 (x := .v (.bool false)) rfl rfl rfl rfl (.pickF rfl rfl) ?_
        refine RunT.ot0 (x := .v (.bool false)) rfl rfl rfl rfl (.moveX rfl) ?_
        refine RunT.xn rfl rfl rfl rfl rfl rfl ?_
        refine RunT.xn rfl rfl rfl rfl rfl rfl ?_
        refine RunT.ot0 (x := .v (.bool false)) rfl rfl rfl rfl (.pickF rfl rfl) ?_
        refine RunT.ot0 (x := .v (.bool false)) rfl rfl rfl rfl (.moveX rfl) ?_
        refine RunT.xn rfl rfl rfl rfl rfl rfl ?_
        refine RunT.xn rfl rfl rfl rfl rfl rfl ?_
        refine RunT.ot0 (x := .v (.bool false)) rfl rfl rfl rfl (.pickF rfl rfl) ?_
        refine RunT.ot0 (x := .v (.bool false)) rfl rfl rfl rfl (.moveX rfl) ?_
        refine RunT.xn rfl rfl rfl rfl rfl rfl ?_
        refine RunT.xn rfl rfl rfl rfl rfl rfl ?_
        refine RunT.ot0 (x := .v (.bool false)) rfl rfl rfl rfl (.pickF rfl rfl) ?_
        refine RunT.ot0 (x := .v (.bool false)) rfl rfl rfl rfl (.moveX rfl) ?_
        refine RunT.xn rfl rfl rfl rfl rfl rfl ?_
        refine RunT.xn rfl rfl rfl rfl rfl rfl ?_
        refine RunT.ot0 (x := .v (.bool false)) rfl rfl rfl rfl (.pickF rfl rfl) ?_
        refine RunT.ot0 (x := .v (.bool false)) rfl rfl rfl rfl (.moveX rfl) ?_
        refine RunT.xn rfl rfl rfl rfl rfl rfl ?_
        refine RunT.xn rfl rfl rfl rfl rfl rfl ?_
        refine RunT.xn rfl rfl rfl rfl rfl rfl ?_
        refine RunT.ot0 (x := .v (.bool false)) rfl rfl rfl rfl (.pickF rfl rfl) ?_
        refine RunT.ot0 (x := .v (.bool false)) rfl rfl rfl rfl (.moveX rfl) ?_
        refine RunT.xn rfl rfl rfl rfl rfl rfl ?_
        refine RunT.xn rfl rfl rfl rfl rfl rfl ?_
        refine RunT.xn rfl rfl rfl rfl rfl rfl ?_
        refine RunT.ot0 (x := .v (.bool false)) rfl rfl rfl rfl (.pickF rfl rfl) ?_
        refine RunT.ot0 (x := .v (.bool false)) rfl rfl rfl rfl (.moveX rfl) ?_
        refine RunT.xn rfl rfl rfl rfl rfl rfl ?_
        refine RunT.xn rfl rfl rfl rfl rfl rfl ?_
        refine RunT.xn rfl rfl rfl rfl rfl rfl ?_
        refine RunT.xn rfl rfl rfl rfl rfl rfl ?_
        refine RunT.ot0 (x := .v (.bool false)) rfl rfl rfl rfl (.pickF rfl rfl) ?_
        refine RunT.ot0 (x := .v (.bool false)) rfl rfl rfl rfl (.assignX rfl) ?_
        refine RunT.nil ?_
        obtain rfl := si H
        refine T.sub (sub_to (st' := ⟨[(0, .v (.bool false))], [], 8, []⟩) [] (by decide) rfl rfl (⟨⟨_, rfl, .one .v⟩, trivial⟩) (trivial)) ?_
        refine T.ret ?_
        exact RetOk.same [.v (.bool false)] ⟨rfl, trivial⟩ rfl rfl rfl
    · replace H := cf H g14
      refine RunT.xn rfl rfl rfl (bo g14) rfl rfl ?_
      refine RunT.xn rfl rfl rfl (bo g14) rfl rfl ?_
      refine RunT.xn rfl rfl rfl (bo g14) rfl rfl ?_
      refine RunT.xn rfl rfl rfl (bo g14) rfl rfl ?_
      refine RunT.ot0 (x := .v (.bool false)) rfl rfl rfl rfl (.pickF (bo g14) rfl) ?_
      refine RunT.ot0 (x := .v (.bool false)) rfl rfl rfl rfl (.moveX rfl) ?_
      refine RunT.xn rfl rfl rfl rfl rfl rfl ?_
      refine RunT.xn rfl rfl rfl rfl rfl rfl ?_
      refine RunT.xn rfl rfl rfl rfl rfl rfl ?_
      refine RunT.xn rfl rfl rfl rfl rfl rfl ?_
      refine RunT.ot0 (x := .v (.bool false)) rfl rfl rfl rfl (.pickF rfl rfl) ?_
      refine RunT.ot0 (x := .v (.bool false)) rfl rfl rfl rfl (.moveX rfl) ?_
      refine RunT.xn rfl rfl rfl rfl rfl rfl ?_
      refine RunT.xn rfl rfl rfl rfl rfl rfl ?_
      refine RunT.xn rfl rfl rfl rfl rfl rfl ?_
      refine RunT.xn rfl rfl rfl rfl rfl rfl ?_
      refine RunT.ot0 (x := .v (.bool false)) rfl rfl rfl rfl (.pickF rfl rfl) ?_
      refine RunT.ot0 (x := .v (.bool false)) rfl rfl rfl rfl (.moveX rfl) ?_
      refine RunT.xn rfl rfl rfl rfl rfl rfl ?_
      refine RunT.xn rfl rfl rfl rfl rfl rfl ?_
      refine RunT.xn rfl rfl rfl rfl rfl rfl ?_
      refine RunT.xn rfl rfl rfl rfl rfl rfl ?_
      refine RunT.ot0 (x := .v (.bool false)) rfl rfl rfl rfl (.pickF rfl rfl) ?_
      refine RunT.ot0 (x := .v (.bool false)) rfl rfl rfl rfl (.moveX rfl) ?_
      refine RunT.xn rfl rfl rfl rfl rfl rfl ?_
      refine RunT.xn rfl rfl rfl rfl rfl rfl ?_
      refine RunT.ot0 (x := .v (.bool false)) rfl rfl rfl rfl (.pickF rfl rfl) ?_
      refine RunT.ot0 (x := .v (.bool false)) rfl rfl rfl rfl (.moveX rfl) ?_
      refine RunT.xn rfl rfl rfl rfl rfl rfl ?_
      refine RunT.xn rfl rfl rfl rfl rfl rfl ?_
      refine RunT.xn rfl rfl rfl rfl rfl rfl ?_
      refine RunT.ot0 (x := .v (.bool false)) rfl rfl rfl rfl (.pickF rfl rfl) ?_
      refine RunT.ot0 (x := .v (.bool false)) rfl rfl rfl rfl (.moveX rfl) ?_
      refine RunT.xn rfl rfl rfl rfl rfl rfl ?_
      refine RunT.xn rfl rfl rfl rfl rfl rfl ?_
      refine RunT.ot0 (x := .v (.bool false)) rfl rfl rfl rfl (.pickF rfl rfl) ?_
      refine RunT.ot0 (x := .v (.bool false)) rfl rfl rfl rfl (.moveX rfl) ?_
      refine RunT.xn rfl rfl rfl rfl rfl rfl ?_
      refine RunT.xn rfl rfl rfl rfl rfl rfl ?_
      refine RunT.xn rfl rfl rfl rfl rfl rfl ?_
      refine RunT.ot0 (x := .v (.bool false)) rfl rfl rfl rfl (.pickF rfl rfl) ?_
      refine RunT.ot0 (x := .v (.bool false)) rfl rfl rfl rfl (.moveX rfl) ?_
      refine RunT.xn rfl rfl rfl rfl rfl rfl ?_
      refine RunT.xn rfl rfl rfl rfl rfl rfl ?_
      refine RunT.ot0 (x := .v (.bool false)) rfl rfl rfl rfl (.pickF rfl rfl) ?_
      refine RunT.ot0 (x := .v (.bool false)) rfl rfl rfl rfl (.moveX rfl) ?_
      refine RunT.xn rfl rfl rfl rfl rfl rfl ?_
      refine RunT.xn rfl rfl rfl rfl rfl rfl ?_
      refine RunT.ot0 (x := .v (.bool false)) rfl rfl rfl rfl (.pickF rfl rfl) ?_
      refine RunT.ot0 (x := .v (.bool false)) rfl rfl rfl rfl (.moveX rfl) ?_
      refine RunT.xn rfl rfl rfl rfl rfl rfl ?_
      refine RunT.xn rfl rfl rfl rfl rfl rfl ?_
      refine RunT.ot0 (x := .v (.bool false)) rfl rfl rfl rfl (.pickF rfl rfl) ?_
      refine RunT.ot0 (x := .v (.bool false)) rfl rfl rfl rfl (.moveX rfl) ?_
      refine RunT.xn rfl rfl rfl rfl rfl rfl ?_
      refine RunT.xn rfl rfl rfl rfl rfl rfl ?_
      refine RunT.ot0 (x := .v (.bool false)) rfl rfl rfl rfl (.pickF rfl rfl) ?_
      refine RunT.ot0 (x := .v (.bool false)) rfl rfl rfl rfl (.moveX rfl) ?_
      refine RunT.xn rfl rfl rfl rfl rfl rfl ?_
      refine RunT.xn rfl rfl rfl rfl rfl rfl ?_
      refine RunT.xn rfl rfl rfl rfl rfl rfl ?_
      refine RunT.ot0 (x := .v (.bool false)) rfl rfl rfl rfl (.pickF rfl rfl) ?_
      refine RunT.ot0 (x := .v (.bool false)) rfl rfl rfl rfl (.moveX rfl) ?_
      refine RunT.xn rfl rfl rfl rfl rfl rfl ?_
      refine RunT.xn rfl rfl rfl rfl rfl rfl ?_
      refine RunT.xn rfl rfl rfl rfl rfl rfl ?_
      refine RunT.ot0 (x := .v (.bool false)) rfl rfl rfl rfl (.pickF rfl rfl) ?_
      refine RunT.ot0 (x := .v (.bool false)) rfl rfl rfl rfl (.moveX rfl) ?_
      refine RunT.xn rfl rfl rfl rfl rfl rfl ?_
      refine RunT.xn rfl rfl rfl rfl rfl rfl ?_
      refine RunT.xn rfl rfl rfl rfl rfl rfl ?_
      refine RunT.xn rfl rfl rfl rfl rfl rfl ?_
      refine RunT.ot0 (x := .v (.bool false)) rfl rfl rfl rfl (.pickF rfl rfl) ?_
      refine RunT.ot0 (x := .v (.bool false)) rfl rfl rfl rfl (.assignX rfl) ?_
      refine RunT.nil ?_
      obtain rfl := si H
      refine T.sub (sub_to (st' := ⟨[(0, .v (.bool false))], [], 8, []⟩) [] (by decide) rfl rfl (⟨⟨_, rfl, .one .v⟩, trivial⟩) (trivial)) ?_
      refine T.ret ?_
      exact RetOk.same [.v (.bool false)] ⟨rfl, trivial⟩ rfl rfl rfl
  · replace H := cf H g13
    refine RunT.xn rfl rfl rfl (bo g13) rfl rfl ?_
    refine RunT.xn rfl rfl rfl (bo g13) rfl rfl ?_
    refine RunT.xn rfl rfl rfl (bo g13) rfl rfl ?_
    refine RunT.ot0 (x := .v (.bool false)) rfl rfl rfl rfl (.pickF (bo g13) rfl) ?_
    refine RunT.ot0 (x := .v (.bool false)) rfl rfl rfl rfl (.moveX rfl) ?_
    refine RunT.xn rfl rfl rfl rfl rfl rfl ?_
    refine RunT.xn rfl rfl rfl rfl rfl rfl ?_
    refine RunT.xn rfl rfl rfl rfl rfl rfl ?_
    refine RunT.xn rfl rfl rfl rfl rfl rfl ?_
    refine RunT.ot0 (x := .v (.bool false)) rfl rfl rfl rfl (.pickF rfl rfl) ?_
    refine RunT.ot0 (x := .v (.bool false)) rfl rfl rfl rfl (.moveX rfl) ?_
    refine RunT.xn rfl rfl rfl rfl rfl rfl ?_
    refine RunT.xn rfl rfl rfl rfl rfl rfl ?_
    refine RunT.xn rfl rfl rfl rfl rfl rfl ?_
    refine RunT.xn rfl rfl rfl rfl rfl rfl ?_
    refine RunT.ot0 (x := .v (.bool false)) rfl rfl rfl rfl (.pickF rfl rfl) ?_
    refine RunT.ot0 (x := .v (.bool false)) rfl rfl rfl rfl (.moveX rfl) ?_
    refine RunT.xn rfl rfl rfl rfl rfl rfl ?_
    refine RunT.xn rfl rfl rfl rfl rfl rfl ?_
    refine RunT.xn rfl rfl rfl rfl rfl rfl ?_
    refine RunT.xn rfl rfl rfl rfl rfl rfl ?_
    refine RunT.ot0 (x := .v (.bool false)) rfl rfl rfl rfl (.pickF rfl rfl) ?_
    refine RunT.ot0 (x := .v (.bool false)) rfl rfl rfl rfl (.moveX rfl) ?_
    refine RunT.xn rfl rfl rfl rfl rfl rfl ?_
    refine RunT.xn rfl rfl rfl rfl rfl rfl ?_
    refine RunT.xn rfl rfl rfl rfl rfl rfl ?_
    refine RunT.xn rfl rfl rfl rfl rfl rfl ?_
    refine RunT.ot0 (x := .v (.bool false)) rfl rfl rfl rfl (.pickF rfl rfl) ?_
    refine RunT.ot0 (x := .v (.bool false)) rfl rfl rfl rfl (.moveX rfl) ?_
    refine RunT.xn rfl rfl rfl rfl rfl rfl ?_
    refine RunT.xn rfl rfl rfl rfl rfl rfl ?_
    refine RunT.ot0 (x := .v (.bool false)) rfl rfl rfl rfl (.pickF rfl rfl) ?_
    refine RunT.ot0 (x := .v (.bool false)) rfl rfl rfl rfl (.moveX rfl) ?_
    refine RunT.xn rfl rfl rfl rfl rfl rfl ?_
    refine RunT.xn rfl rfl rfl rfl rfl rfl ?_
    refine RunT.xn rfl rfl rfl rfl rfl rfl ?_
    refine RunT.ot0 (x := .v (.bool false)) rfl rfl rfl rfl (.pickF rfl rfl) ?_
    refine RunT.ot0 (x := .v (.bool false)) rfl rfl rfl rfl (.moveX rfl) ?_
    refine RunT.xn rfl rfl rfl rfl rfl rfl ?_
    refine RunT.xn rfl rfl rfl rfl rfl rfl ?_
    refine RunT.ot0 (x := .v (.bool false)) rfl rfl rfl rfl (.pickF rfl rfl) ?_
    refine RunT.ot0 (x := .v (.bool false)) rfl rfl rfl rfl (.moveX rfl) ?_
    refine RunT.xn rfl rfl rfl rfl rfl rfl ?_
    refine RunT.xn rfl rfl rfl rfl rfl rfl ?_
    refine RunT.xn rfl rfl rfl rfl rfl rfl ?_
    refine RunT.ot0 (x := .v (.bool false)) rfl rfl rfl rfl (.pickF rfl rfl) ?_
    refine RunT.ot0 (x := .v (.bool false)) rfl rfl rfl rfl (.moveX rfl) ?_
    refine RunT.xn rfl rfl rfl rfl rfl rfl ?_
    refine RunT.xn rfl rfl rfl rfl rfl rfl ?_
    refine RunT.ot0 (x := .v (.bool false)) rfl rfl rfl rfl (.pickF rfl rfl) ?_
    refine RunT.ot0 (x := .v (.bool false)) rfl rfl rfl rfl (.moveX rfl) ?_
    refine RunT.xn rfl rfl rfl rfl rfl rfl ?_
    refine RunT.xn rfl rfl rfl rfl rfl rfl ?_
    refine RunT.ot0 (x := .v (.bool false)) rfl rfl rfl rfl (.pickF rfl rfl) ?_
    refine RunT.ot0 (x := .v (.bool false)) rfl rfl rfl rfl (.moveX rfl) ?_
    refine RunT.xn rfl rfl rfl rfl rfl rfl ?_
    refine RunT.xn rfl rfl rfl rfl rfl rfl ?_
    refine RunT.ot0 (x := .v (.bool false)) rfl rfl rfl rfl (.pickF rfl rfl) ?_
    refine RunT.ot0 (x := .v (.bool false)) rfl rfl rfl rfl (.moveX rfl) ?_
    refine RunT.xn rfl rfl rfl rfl rfl rfl ?_
    refine RunT.xn rfl rfl rfl rfl rfl rfl ?_
    refine RunT.ot0 (x := .v (.bool false)) rfl rfl rfl rfl (.pickF rfl rfl) ?_
    refine RunT.ot0 (x := .v (.bool false)) rfl rfl rfl rfl (.moveX rfl) ?_
    refine RunT.xn rfl rfl rfl rfl rfl rfl ?_
    refine RunT.xn rfl rfl rfl rfl rfl rfl ?_
    refine RunT.xn rfl rfl rfl rfl rfl rfl ?_
    refine RunT.ot0 (x := .v (.bool false)) rfl rfl rfl rfl (.pickF rfl rfl) ?_
    refine RunT.ot0 (x := .v (.bool false)) rfl rfl rfl rfl (.moveX rfl) ?_
    refine RunT.xn rfl rfl rfl rfl rfl rfl ?_
    refine RunT.xn rfl rfl rfl rfl rfl rfl ?_
    refine RunT.xn rfl rfl rfl rfl rfl rfl ?_
    refine RunT.ot0 (x := .v (.bool false)) rfl rfl rfl rfl (.pickF rfl rfl) ?_
    refine RunT.ot0 (x := .v (.bool false)) rfl rfl rfl rfl (.moveX rfl) ?_
    refine RunT.xn rfl rfl rfl rfl rfl rfl ?_
    refine RunT.xn rfl rfl rfl rfl rfl rfl ?_
    refine RunT.xn rfl rfl rfl rfl rfl rfl ?_
    refine RunT.xn rfl rfl rfl rfl rfl rfl ?_
    refine RunT.ot0 (x := .v (.bool false)) rfl rfl rfl rfl (.pickF rfl rfl) ?_
    refine RunT.ot0 (x := .v (.bool false)) rfl rfl rfl rfl (.assignX rfl) ?_
    refine RunT.nil ?_
    obtain rfl := si H
    refine T.sub (sub_to (st' := ⟨[(0, .v (.bool false))], [], 8, []⟩) [] (by decide) rfl rfl (⟨⟨_, rfl, .one .v⟩, trivial⟩) (trivial)) ?_
    refine T.ret ?_
    exact RetOk.same [.v (.bool false)] ⟨rfl, trivial⟩ rfl rfl rfl
set_option maxHeartbeats 4000000 in
theorem law22_RecordBack_pc (al : Bool) (k : Nat) (a0 : Record) (a1 : Int) (a2 : Int) (o : Bool) (H : law22_RecordBack k a0 a1 a2 = some o) : PC Try.prog al 11 [.agg [.v (.int .i64 a0.Kind), .v (.string a0.Text), .v (.int .i64 a0.Order.Id), .v (.int .i64 a0.Order.State), .v (.int .i64 a0.Order.Party.Size), .v (.int .i64 a0.Order.Party.Wheels), .v (.int .i64 a0.Order.Until), .v (.int .i64 a0.Order.First), .v (.int .i64 a0.Time)], .v (.int .i64 a1), .v (.int .u8 a2)] (.v (.bool o)) := by
  unfold law22_RecordBack at H
  refine PC.of_T Try.func11 rfl rfl (n := 99) rfl rfl (.inr rfl) ?_
  intro base B w0
  refine T.st (st' := ⟨[(0, .agg [.v (.int .i64 a0.Kind), .v (.string a0.Text), .v (.int .i64 a0.Order.Id), .v (.int .i64 a0.Order.State), .v (.int .i64 a0.Order.Party.Size), .v (.int .i64 a0.Order.Party.Wheels), .v (.int .i64 a0.Order.Until), .v (.int .i64 a0.Order.First), .v (.int .i64 a0.Time)]), (1, .v (.int .i64 a1)), (2, .v (.int .u8 a2))], [], 0, []⟩) rfl ?_
  refine T.seq ?_
  refine T.region ?_
  refine RunT.ot1 (x := .ptr 0 0) (p0 := (0, some (.box [.v (.int .i64 a0.Kind), .v (.string a0.Text), .v (.int .i64 a0.Order.Id), .v (.int .i64 a0.Order.State), .v (.int .i64 a0.Order.Party.Size), .v (.int .i64 a0.Order.Party.Wheels), .v (.int .i64 a0.Order.Until), .v (.int .i64 a0.Order.First), .v (.int .i64 a0.Time)]))) (n' := 8) rfl rfl rfl rfl (.boxX rfl rfl rfl) rfl ?_
  refine RunT.ot0 (x := .v (.bool false)) rfl rfl rfl rfl (.assignX rfl) ?_
  refine RunT.nil ?_
  refine T.seq ?_
  obtain ⟨o4, E5, HO6⟩ := bs H
  refine T.cut (⟨[(1, .v (.int .i64 a1)), (2, .v (.int .u8 a2)), (3, .ptr 0 0), (22, .v (.bool o4))], [(0, some (.box [.v (.int .i64 a0.Kind), .v (.string a0.Text), .v (.int .i64 a0.Order.Id), .v (.int .i64 a0.Order.State), .v (.int .i64 a0.Order.Party.Size), .v (.int .i64 a0.Order.Party.Wheels), .v (.int .i64 a0.Order.Until), .v (.int .i64 a0.Order.First), .v (.int .i64 a0.Time)]))], 8, []⟩) ?_ ?_
  · have H := E5
    refine T.region ?_
    refine RunT.ot0 (x := .ptr 0 1) rfl rfl rfl rfl (.fieldPX fl51_1 rfl rfl) ?_
    refine RunT.ot0 (x := .v (.string a0.Text)) rfl rfl rfl rfl (.loadP ty9 rfl rfl rfl) ?_
    refine RunT.ot0 (x := .v (.int .i64 (a0.Text.size : Int))) rfl rfl rfl rfl (.lenV rfl (fun _ w => len_str rfl Try.underlying9 w) rfl) ?_
    refine RunT.ot0 (x := .v (.bool (decide (200 < (a0.Text.size : Int))))) rfl rfl rfl rfl (.bin rfl rfl (fun w => b_gtr w) rfl) ?_
    refine RunT.ot0 (x := .v (.bool (decide (200 < (a0.Text.size : Int))))) rfl rfl rfl rfl (.moveX rfl) ?_
    refine RunT.cases (t := 18) (c := decide (200 < (a0.Text.size : Int))) rfl (fun g7 => ?_) (fun g7 => ?_)
    · replace H := ct H g7
      refine RunT.xn rfl rfl rfl (bo g7) rfl rfl ?_
      refine RunT.xn rfl rfl rfl (bo g7) rfl rfl ?_
      refine RunT.xn rfl rfl rfl (bo g7) rfl rfl ?_
      refine RunT.ot0 (x := .v (.bool true)) rfl rfl rfl rfl (.pickT (bo g7) rfl) ?_
      refine RunT.nil ?_
      obtain rfl := si H
      exact (sub_to [some 0] (by decide) rfl rfl (⟨⟨_, rfl, .one .v⟩, ⟨⟨_, rfl, .one .v⟩, ⟨⟨_, rfl, .one (.ptr rfl)⟩, ⟨⟨_, rfl, .one .v⟩, trivial⟩⟩⟩⟩) (⟨⟨rfl, .inl ⟨_, _, rfl, rfl, .box ⟨.v, .v, .v, .v, .v, .v, .v, .v, .v, trivial⟩⟩⟩, trivial⟩))
    · replace H := cf H g7
      refine RunT.gt0 (x := .agg [.v (.int .i64 a0.Kind), .v (.string a0.Text), .v (.int .i64 a0.Order.Id), .v (.int .i64 a0.Order.State), .v (.int .i64 a0.Order.Party.Size), .v (.int .i64 a0.Order.Party.Wheels), .v (.int .i64 a0.Order.Until), .v (.int .i64 a0.Order.First), .v (.int .i64 a0.Time)]) rfl rfl rfl (bo g7) rfl rfl (.loadP ty51 rfl rfl rfl) ?_
      obtain ⟨r8, h9, H⟩ := bs H
      refine RunT.gt0 (x := .v (.bool r8)) rfl rfl rfl (bo g7) rfl rfl (.callp (record_May_pc false k a0 r8 h9) rfl ⟨(.agg' ⟨.v, .v, .v, .v, .v, .v, .v, .v, .v, trivial⟩), trivial⟩ rfl rfl rfl) ?_
      refine RunT.gt0 (x := .v (.bool (!r8))) rfl rfl rfl (bo g7) rfl rfl (.un rfl (fun w => u_not w) rfl) ?_
      refine RunT.ot0 (x := .v (.bool (!r8))) rfl rfl rfl rfl (.pickF (bo g7) rfl) ?_
      refine RunT.nil ?_
      obtain rfl := si H
      exact (sub_to [some 0] (by decide) rfl rfl (⟨⟨_, rfl, .one .v⟩, ⟨⟨_, rfl, .one .v⟩, ⟨⟨_, rfl, .one (.ptr rfl)⟩, ⟨⟨_, rfl, .one .v⟩, trivial⟩⟩⟩⟩) (⟨⟨rfl, .inl ⟨_, _, rfl, rfl, .box ⟨.v, .v, .v, .v, .v, .v, .v, .v, .v, trivial⟩⟩⟩, trivial⟩))
  · have H := HO6
    refine T.cond2 (t := o4) rfl (fun c10 => ?_) (fun c10 => ?_)
    · replace H := ct H c10
      refine T.seq ?_
      refine T.sub (sub_pick [] [] (st' := ⟨[], [], 8, []⟩) rfl rfl rfl rfl rfl) ?_
      refine T.region ?_
      obtain ⟨r11, h12, H⟩ := bs H
      refine RunT.ot0 (x := .v (.bool r11)) rfl rfl rfl rfl (.callp (law22_told_pc false k  r11 h12) rfl trivial rfl rfl rfl) ?_
      refine RunT.ot0 (x := .v (.bool r11)) rfl rfl rfl rfl (.assignX rfl) ?_
      refine RunT.nil ?_
      obtain rfl := si H
      refine T.sub (sub_to (st' := ⟨[(6, .v (.bool r11))], [], 8, []⟩) [] (by decide) rfl rfl (⟨⟨_, rfl, .one .v⟩, trivial⟩) (trivial)) ?_
      refine T.ret ?_
      exact RetOk.same [.v (.bool r11)] ⟨rfl, trivial⟩ rfl rfl rfl
    · replace H := cf H c10
      refine T.skip ?_
      refine T.seq ?_
      refine T.region ?_
      refine RunT.ot0 (x := .agg [.v (.int .i64 a0.Kind), .v (.string a0.Text), .v (.int .i64 a0.Order.Id), .v (.int .i64 a0.Order.State), .v (.int .i64 a0.Order.Party.Size), .v (.int .i64 a0.Order.Party.Wheels), .v (.int .i64 a0.Order.Until), .v (.int .i64 a0.Order.First), .v (.int .i64 a0.Time)]) rfl rfl rfl rfl (.loadP ty51 rfl rfl rfl) ?_
      obtain ⟨r13, h14, H⟩ := bs H
      refine RunT.ot1 (x := .tup [.own 8 0 ((List.map eU8 r13.1).length), .v (.int .i64 r13.2)]) (p0 := (8, some (.arr false 1 (List.map eU8 r13.1)))) (n' := 16) rfl rfl rfl rfl (.callp (record_Put_pc false k a0 r13 h14) rfl ⟨(.agg' ⟨.v, .v, .v, .v, .v, .v, .v, .v, .v, trivial⟩), trivial⟩ rfl rfl rfl) rfl ?_
      refine RunT.ot0 (x := .tup [.own 8 0 ((List.map eU8 r13.1).length), .v (.int .i64 r13.2)]) rfl rfl rfl rfl (.moveX rfl) ?_
      refine RunT.ot0 (x := .own 8 0 ((List.map eU8 r13.1).length)) rfl rfl rfl rfl (.extract rfl rfl) ?_
      refine RunT.ot0 (x := .v (.int .i64 r13.2)) rfl rfl rfl rfl (.extract rfl rfl) ?_
      refine RunT.ot0 (x := .own 8 0 ((List.map eU8 r13.1).length)) rfl rfl rfl rfl (.assignX rfl) ?_
      refine RunT.ot0 (x := .v (.int .i64 r13.2)) rfl rfl rfl rfl (.assignX rfl) ?_
      refine RunT.nil ?_
      refine T.seq ?_
      refine T.region ?_
      refine RunT.ot0 (x := .own 8 0 ((List.map eU8 r13.1).length)) rfl rfl rfl rfl (.moveX rfl) ?_
      obtain ⟨r15, h16, H⟩ := bs H
      refine RunT.ot0 (x := .tup [.agg [.v (.int .i64 r15.1.Kind), .v (.string r15.1.Text), .v (.int .i64 r15.1.Order.Id), .v (.int .i64 r15.1.Order.State), .v (.int .i64 r15.1.Order.Party.Size), .v (.int .i64 r15.1.Order.Party.Wheels), .v (.int .i64 r15.1.Order.Until), .v (.int .i64 r15.1.Order.First), .v (.int .i64 r15.1.Time)], .v (.int .i64 r15.2)]) rfl rfl rfl rfl (.callp (record_Get_pc false k r13.1 r15 h16) rfl ⟨(.one (.all rfl ((List.length_map _).trans (List.length_map _).symm))), trivial⟩ rfl rfl rfl) ?_
      refine RunT.ot0 (x := .tup [.agg [.v (.int .i64 r15.1.Kind), .v (.string r15.1.Text), .v (.int .i64 r15.1.Order.Id), .v (.int .i64 r15.1.Order.State), .v (.int .i64 r15.1.Order.Party.Size), .v (.int .i64 r15.1.Order.Party.Wheels), .v (.int .i64 r15.1.Order.Until), .v (.int .i64 r15.1.Order.First), .v (.int .i64 r15.1.Time)], .v (.int .i64 r15.2)]) rfl rfl rfl rfl (.moveX rfl) ?_
      refine RunT.ot0 (x := .agg [.v (.int .i64 r15.1.Kind), .v (.string r15.1.Text), .v (.int .i64 r15.1.Order.Id), .v (.int .i64 r15.1.Order.State), .v (.int .i64 r15.1.Order.Party.Size), .v (.int .i64 r15.1.Order.Party.Wheels), .v (.int .i64 r15.1.Order.Until), .v (.int .i64 r15.1.Order.First), .v (.int .i64 r15.1.Time)]) rfl rfl rfl rfl (.extract rfl rfl) ?_
      refine RunT.ot0 (x := .v (.int .i64 r15.2)) rfl rfl rfl rfl (.extract rfl rfl) ?_
      refine RunT.ot1 (x := .ptr 16 0) (p0 := (16, some (.box [.v (.int .i64 0), .v (.string (⟨#[]⟩ : ByteArray)), .v (.int .i64 0), .v (.int .i64 0), .v (.int .i64 0), .v (.int .i64 0), .v (.int .i64 0), .v (.int .i64 0), .v (.int .i64 0)]))) (n' := 24) rfl rfl rfl rfl (.allocX in51.zero rfl rfl) rfl ?_
      refine RunT.on1 (x := .junk) (p0 := (16, some (.box [.v (.int .i64 r15.1.Kind), .v (.string r15.1.Text), .v (.int .i64 r15.1.Order.Id), .v (.int .i64 r15.1.Order.State), .v (.int .i64 r15.1.Order.Party.Size), .v (.int .i64 r15.1.Order.Party.Wheels), .v (.int .i64 r15.1.Order.Until), .v (.int .i64 r15.1.Order.First), .v (.int .i64 r15.1.Time)]))) (n' := 32) rfl rfl rfl (.storePX ty51 rfl rfl rfl rfl rfl rfl rfl) rfl ?_
      refine RunT.ot0 (x := .v (.int .i64 r15.2)) rfl rfl rfl rfl (.assignX rfl) ?_
      refine RunT.nil ?_
      refine T.seq ?_
      refine T.seq ?_
      refine T.sub (sub_pick [1, 2, 3, 7, 8, 9, 10] [0, 8, 16] (st' := ⟨[(1, .v (.int .i64 a1)), (2, .v (.int .u8 a2)), (3, .ptr 0 0), (7, .own 8 0 ((List.map eU8 r13.1).length)), (8, .v (.int .i64 r13.2)), (9, .ptr 16 0), (10, .v (.int .i64 r15.2))], [(0, some (.box [.v (.int .i64 a0.Kind), .v (.string a0.Text), .v (.int .i64 a0.Order.Id), .v (.int .i64 a0.Order.State), .v (.int .i64 a0.Order.Party.Size), .v (.int .i64 a0.Order.Party.Wheels), .v (.int .i64 a0.Order.Until), .v (.int .i64 a0.Order.First), .v (.int .i64 a0.Time)])), (8, some (.arr false 1 (List.map eU8 r13.1))), (16, some (.box [.v (.int .i64 r15.1.Kind), .v (.string r15.1.Text), .v (.int .i64 r15.1.Order.Id), .v (.int .i64 r15.1.Order.State), .v (.int .i64 r15.1.Order.Party.Size), .v (.int .i64 r15.1.Order.Party.Wheels), .v (.int .i64 r15.1.Order.Until), .v (.int .i64 r15.1.Order.First), .v (.int .i64 r15.1.Time)]))], 32, []⟩) rfl rfl rfl rfl rfl) ?_
      refine T.region ?_
      refine RunT.ot0 (x := .v (.int .i64 r13.2)) rfl rfl rfl rfl (.moveX rfl) ?_
      refine RunT.ot0 (x := .v (.bool (!decide (r13.2 = 0)))) rfl rfl rfl rfl (.bin rfl rfl (fun w => b_neq w) rfl) ?_
      refine RunT.ot0 (x := .v (.bool (!decide (r13.2 = 0)))) rfl rfl rfl rfl (.moveX rfl) ?_
      refine RunT.cases (t := 36) (c := !decide (r13.2 = 0)) rfl (fun g17 => ?_) (fun g17 => ?_)
      · replace H := ct H g17
        refine RunT.xn rfl rfl rfl (bo g17) rfl rfl ?_
        refine RunT.xn rfl rfl rfl (bo g17) rfl rfl ?_
        refine RunT.ot0 (x := .v (.bool true)) rfl rfl rfl rfl (.pickT (bo g17) rfl) ?_
        refine RunT.ot0 (x := .v (.bool true)) rfl rfl rfl rfl (.moveX rfl) ?_
        refine RunT.xn rfl rfl rfl rfl rfl rfl ?_
        refine RunT.xn rfl rfl rfl rfl rfl rfl ?_
        refine RunT.xn rfl rfl rfl rfl rfl rfl ?_
        refine RunT.ot0 (x := .v (.bool true)) rfl rfl rfl rfl (.pickT rfl rfl) ?_
        refine RunT.ot0 (x := .v (.bool true)) rfl rfl rfl rfl (.moveX rfl) ?_
        refine RunT.xn rfl rfl rfl rfl rfl rfl ?_
        refine RunT.xn rfl rfl rfl rfl rfl rfl ?_
        refine RunT.xn rfl rfl rfl rfl rfl rfl ?_
        refine RunT.ot0 (x := .v (.bool true)) rfl rfl rfl rfl (.pickT rfl rfl) ?_
        refine RunT.nil ?_
        refine T.condT rfl ?_
        refine T.seq ?_
        refine T.region ?_
        refine RunT.ot0 (x := .v (.bool false)) rfl rfl rfl rfl (.assignX rfl) ?_
        refine RunT.nil ?_
        obtain rfl := si H
        refine T.sub (sub_to (st' := ⟨[(6, .v (.bool false))], [], 8, []⟩) [] (by decide) rfl rfl (⟨⟨_, rfl, .one .v⟩, trivial⟩) (trivial)) ?_
        refine T.ret ?_
        exact RetOk.same [.v (.bool false)] ⟨rfl, trivial⟩ rfl rfl rfl
      · replace H := cf H g17
        refine RunT.gt0 (x := .v (.int .i64 r15.2)) rfl rfl rfl (bo g17) rfl rfl (.moveX rfl) ?_
        refine RunT.gt0 (x := .v (.bool (!decide (r15.2 = 0)))) rfl rfl rfl (bo g17) rfl rfl (.bin rfl rfl (fun w => b_neq w) rfl) ?_
        refine RunT.ot0 (x := .v (.bool (!decide (r15.2 = 0)))) rfl rfl rfl rfl (.pickF (bo g17) rfl) ?_
        refine RunT.ot0 (x := .v (.bool (!decide (r15.2 = 0)))) rfl rfl rfl rfl (.moveX rfl) ?_
        refine RunT.cases (t := 40) (c := !decide (r15.2 = 0)) rfl (fun g18 => ?_) (fun g18 => ?_)
        · replace H := ct H g18
          refine RunT.xn rfl rfl rfl (bo g18) rfl rfl ?_
          refine RunT.xn rfl rfl rfl (bo g18) rfl rfl ?_
          refine RunT.xn rfl rfl rfl (bo g18) rfl rfl ?_
          refine RunT.ot0 (x := .v (.bool true)) rfl rfl rfl rfl (.pickT (bo g18) rfl) ?_
          refine RunT.ot0 (x := .v (.bool true)) rfl rfl rfl rfl (.moveX rfl) ?_
          refine RunT.xn rfl rfl rfl rfl rfl rfl ?_
          refine RunT.xn rfl rfl rfl rfl rfl rfl ?_
          refine RunT.xn rfl rfl rfl rfl rfl rfl ?_
          refine RunT.ot0 (x := .v (.bool true)) rfl rfl rfl rfl (.pickT rfl rfl) ?_
          refine RunT.nil ?_
          refine T.condT rfl ?_
          refine T.seq ?_
          refine T.sub (sub_pick [] [] (st' := ⟨[], [], 32, []⟩) rfl rfl rfl rfl rfl) ?_
          refine T.region ?_
          refine RunT.ot0 (x := .v (.bool false)) rfl rfl rfl rfl (.assignX rfl) ?_
          refine RunT.nil ?_
          obtain rfl := si H
          refine T.sub (sub_to (st' := ⟨[(6, .v (.bool false))], [], 8, []⟩) [] (by decide) rfl rfl (⟨⟨_, rfl, .one .v⟩, trivial⟩) (trivial)) ?_
          refine T.ret ?_
          exact RetOk.same [.v (.bool false)] ⟨rfl, trivial⟩ rfl rfl rfl
        · replace H := cf H g18
          refine RunT.gt0 (x := .agg [.v (.int .i64 r15.1.Kind), .v (.string r15.1.Text), .v (.int .i64 r15.1.Order.Id), .v (.int .i64 r15.1.Order.State), .v (.int .i64 r15.1.Order.Party.Size), .v (.int .i64 r15.1.Order.Party.Wheels), .v (.int .i64 r15.1.Order.Until), .v (.int .i64 r15.1.Order.First), .v (.int .i64 r15.1.Time)]) rfl rfl rfl (bo g18) rfl rfl (.loadP ty51 rfl rfl rfl) ?_
          refine RunT.gt0 (x := .agg [.v (.int .i64 a0.Kind), .v (.string a0.Text), .v (.int .i64 a0.Order.Id), .v (.int .i64 a0.Order.State), .v (.int .i64 a0.Order.Party.Size), .v (.int .i64 a0.Order.Party.Wheels), .v (.int .i64 a0.Order.Until), .v (.int .i64 a0.Order.First), .v (.int .i64 a0.Time)]) rfl rfl rfl (bo g18) rfl rfl (.loadP ty51 rfl rfl rfl) ?_
          refine RunT.gt0 (x := .v (.bool (!decide (r15.1 = a0)))) rfl rfl rfl (bo g18) rfl rfl (.binA (us := us_Record (r15.1)) (vs := us_Record (a0)) rfl rfl (fun w => ne_Record (r15.1) (a0) w) rfl) ?_
          refine RunT.ot0 (x := .v (.bool (!decide (r15.1 = a0)))) rfl rfl rfl rfl (.pickF (bo g18) rfl) ?_
          refine RunT.ot0 (x := .v (.bool (!decide (r15.1 = a0)))) rfl rfl rfl rfl (.moveX rfl) ?_
          refine RunT.cases (t := 45) (c := !decide (r15.1 = a0)) rfl (fun g19 => ?_) (fun g19 => ?_)
          · replace H := ct H g19
            refine RunT.xn rfl rfl rfl (bo g19) rfl rfl ?_
            refine RunT.xn rfl rfl rfl (bo g19) rfl rfl ?_
            refine RunT.xn rfl rfl rfl (bo g19) rfl rfl ?_
            refine RunT.ot0 (x := .v (.bool true)) rfl rfl rfl rfl (.pickT (bo g19) rfl) ?_
            refine RunT.nil ?_
            refine T.condT rfl ?_
            refine T.seq ?_
            refine T.region ?_
            refine RunT.ot0 (x := .v (.bool false)) rfl rfl rfl rfl (.assignX rfl) ?_
            refine RunT.nil ?_
            obtain rfl := si H
            refine T.sub (sub_to (st' := ⟨[(6, .v (.bool false))], [], 8, []⟩) [] (by decide) rfl rfl (⟨⟨_, rfl, .one .v⟩, trivial⟩) (trivial)) ?_
            refine T.ret ?_
            exact RetOk.same [.v (.bool false)] ⟨rfl, trivial⟩ rfl rfl rfl
          · replace H := cf H g19
            refine RunT.gt0 (x := .own 8 0 ((List.map eU8 r13.1).length)) rfl rfl rfl (bo g19) rfl rfl (.moveX rfl) ?_
            refine RunT.gt0 (x := .v (.int .i64 (r13.1.length : Int))) rfl rfl rfl (bo g19) rfl rfl (.lenON (List.length_map _) Try.underlying35 rfl rfl) ?_
            refine RunT.gt0 (x := .v (.bool (decide ((r13.1.length : Int) = 0)))) rfl rfl rfl (bo g19) rfl rfl (.bin rfl rfl (fun w => b_eql w) rfl) ?_
            refine RunT.ot0 (x := .v (.bool (decide ((r13.1.length : Int) = 0)))) rfl rfl rfl rfl (.pickF (bo g19) rfl) ?_
            refine RunT.nil ?_
            refine T.cond2 (t := decide ((r13.1.length : Int) = 0)) rfl (fun c20 => ?_) (fun c20 => ?_)
            · replace H := ct H c20
              refine T.seq ?_
              refine T.region ?_
              refine RunT.ot0 (x := .v (.bool false)) rfl rfl rfl rfl (.assignX rfl) ?_
              refine RunT.nil ?_
              obtain rfl := si H
              refine T.sub (sub_to (st' := ⟨[(6, .v (.bool false))], [], 8, []⟩) [] (by decide) rfl rfl (⟨⟨_, rfl, .one .v⟩, trivial⟩) (trivial)) ?_
              refine T.ret ?_
              exact RetOk.same [.v (.bool false)] ⟨rfl, trivial⟩ rfl rfl rfl
            · replace H := cf H c20
              refine T.skip ?_
              refine T.seq ?_
              refine T.region ?_
              refine RunT.ot0 (x := .v (.int .i64 a1)) rfl rfl rfl rfl (.moveX rfl) ?_
              refine RunT.ot0 (x := .v (.int .u64 (IntKind.u64.wrap a1))) rfl rfl rfl rfl (.conv rfl (fun w => c_int w ⟨_, Try.underlying3⟩ Try.underlying31) rfl) ?_
              refine RunT.ot0 (x := .own 8 0 ((List.map eU8 r13.1).length)) rfl rfl rfl rfl (.moveX rfl) ?_
              refine RunT.ot0 (x := .v (.int .i64 (r13.1.length : Int))) rfl rfl rfl rfl (.lenON (List.length_map _) Try.underlying35 rfl rfl) ?_
              refine RunT.ot0 (x := .v (.int .u64 (IntKind.u64.wrap (r13.1.length : Int)))) rfl rfl rfl rfl (.conv rfl (fun w => c_int w ⟨_, Try.underlying3⟩ Try.underlying31) rfl) ?_
              obtain ⟨h21, H⟩ := gs H
              refine RunT.ot0 (x := .v (.int .u64 ((IntKind.u64.wrap a1).tmod (IntKind.u64.wrap (r13.1.length : Int))))) rfl rfl rfl rfl (.bin rfl rfl (fun w => b_rem w (of_decide_eq_true h21)) rfl) ?_
              refine RunT.ot0 (x := .v (.int .u64 ((IntKind.u64.wrap a1).tmod (IntKind.u64.wrap (r13.1.length : Int))))) rfl rfl rfl rfl (.assignX rfl) ?_
              refine RunT.nil ?_
              refine T.seq ?_
              refine T.sub (sub_pick [2, 3, 7, 11] [0, 8] (st' := ⟨[(2, .v (.int .u8 a2)), (3, .ptr 0 0), (7, .own 8 0 ((List.map eU8 r13.1).length)), (11, .v (.int .u64 ((IntKind.u64.wrap a1).tmod (IntKind.u64.wrap (r13.1.length : Int)))))], [(0, some (.box [.v (.int .i64 a0.Kind), .v (.string a0.Text), .v (.int .i64 a0.Order.Id), .v (.int .i64 a0.Order.State), .v (.int .i64 a0.Order.Party.Size), .v (.int .i64 a0.Order.Party.Wheels), .v (.int .i64 a0.Order.Until), .v (.int .i64 a0.Order.First), .v (.int .i64 a0.Time)])), (8, some (.arr false 1 (List.map eU8 r13.1)))], 32, []⟩) rfl rfl rfl rfl rfl) ?_
              refine T.region ?_
              refine RunT.ot0 (x := .own 8 0 ((List.map eU8 r13.1).length)) rfl rfl rfl rfl (.moveX rfl) ?_
              refine RunT.ot0 (x := .v (.int .u64 ((IntKind.u64.wrap a1).tmod (IntKind.u64.wrap (r13.1.length : Int))))) rfl rfl rfl rfl (.moveX rfl) ?_
              refine RunT.ot0 (x := .own 8 0 ((List.map eU8 r13.1).length)) rfl rfl rfl rfl (.moveX rfl) ?_
              refine RunT.ot0 (x := .v (.int .u64 ((IntKind.u64.wrap a1).tmod (IntKind.u64.wrap (r13.1.length : Int))))) rfl rfl rfl rfl (.moveX rfl) ?_
              obtain ⟨y22, h23, H⟩ := bs H
              refine RunT.ot0 (x := .eptr 8 ((IntKind.u64.wrap a1).tmod (IntKind.u64.wrap (r13.1.length : Int))).toNat 0) rfl rfl rfl rfl (.idxOn (List.length_map _) sl35 rfl rfl rfl h23) ?_
              refine RunT.ot0 (x := .v (.int .u8 y22)) rfl rfl rfl rfl (.loadEm ty5 rfl rfl (ixs h23).2.1 rfl) ?_
              refine RunT.ot0 (x := .v (.int .u8 a2)) rfl rfl rfl rfl (.moveX rfl) ?_
              refine RunT.ot0 (x := .v (.int .u8 (IntKind.u8.wrap (((BitVec.ofInt IntKind.u8.bits y22 ^^^ BitVec.ofInt IntKind.u8.bits a2).toNat : Nat) : Int)))) rfl rfl rfl rfl (.bin rfl rfl (fun w => b_xor' w rfl) rfl) ?_
              obtain ⟨y24, h25, H⟩ := bs H
              refine RunT.ot0 (x := .eptr 8 ((IntKind.u64.wrap a1).tmod (IntKind.u64.wrap (r13.1.length : Int))).toNat 0) rfl rfl rfl rfl (.idxOn (List.length_map _) sl35 rfl rfl rfl h25) ?_
              refine RunT.on1 (x := .junk) (p0 := (8, some (.arr false 1 (List.map eU8 (r13.1.set ((IntKind.u64.wrap a1).tmod (IntKind.u64.wrap (r13.1.length : Int))).toNat (IntKind.u8.wrap (((BitVec.ofInt IntKind.u8.bits y22 ^^^ BitVec.ofInt IntKind.u8.bits a2).toNat : Nat) : Int))))))) (n' := 40) rfl rfl rfl (.storeEm (z' := IntKind.u8.wrap (((BitVec.ofInt IntKind.u8.bits y22 ^^^ BitVec.ofInt IntKind.u8.bits a2).toNat : Nat) : Int)) ty5 rfl rfl rfl rfl rfl (ixs h25).2.1 rfl (fun _ => rfl) rfl) rfl ?_
              refine RunT.nil ?_
              refine T.seq ?_
              refine T.region ?_
              refine RunT.ot0 (x := .own 8 0 ((List.map eU8 r13.1).length)) rfl rfl rfl rfl (.moveX rfl) ?_
              obtain ⟨r26, h27, H⟩ := bs H
              refine RunT.ot0 (x := .tup [.agg [.v (.int .i64 r26.1.Kind), .v (.string r26.1.Text), .v (.int .i64 r26.1.Order.Id), .v (.int .i64 r26.1.Order.State), .v (.int .i64 r26.1.Order.Party.Size), .v (.int .i64 r26.1.Order.Party.Wheels), .v (.int .i64 r26.1.Order.Until), .v (.int .i64 r26.1.Order.First), .v (.int .i64 r26.1.Time)], .v (.int .i64 r26.2)]) rfl rfl rfl rfl (.callp (record_Get_pc false k (r13.1.set ((IntKind.u64.wrap a1).tmod (IntKind.u64.wrap (r13.1.length : Int))).toNat (IntKind.u8.wrap (((BitVec.ofInt IntKind.u8.bits y22 ^^^ BitVec.ofInt IntKind.u8.bits a2).toNat : Nat) : Int))) r26 h27) rfl ⟨(.one (.all rfl (((List.length_map _).trans (List.length_set ..).symm).trans (List.length_map _).symm))), trivial⟩ rfl rfl rfl) ?_
              refine RunT.ot0 (x := .tup [.agg [.v (.int .i64 r26.1.Kind), .v (.string r26.1.Text), .v (.int .i64 r26.1.Order.Id), .v (.int .i64 r26.1.Order.State), .v (.int .i64 r26.1.Order.Party.Size), .v (.int .i64 r26.1.Order.Party.Wheels), .v (.int .i64 r26.1.Order.Until), .v (.int .i64 r26.1.Order.First), .v (.int .i64 r26.1.Time)], .v (.int .i64 r26.2)]) rfl rfl rfl rfl (.moveX rfl) ?_
              refine RunT.ot0 (x := .agg [.v (.int .i64 r26.1.Kind), .v (.string r26.1.Text), .v (.int .i64 r26.1.Order.Id), .v (.int .i64 r26.1.Order.State), .v (.int .i64 r26.1.Order.Party.Size), .v (.int .i64 r26.1.Order.Party.Wheels), .v (.int .i64 r26.1.Order.Until), .v (.int .i64 r26.1.Order.First), .v (.int .i64 r26.1.Time)]) rfl rfl rfl rfl (.extract rfl rfl) ?_
              refine RunT.ot0 (x := .v (.int .i64 r26.2)) rfl rfl rfl rfl (.extract rfl rfl) ?_
              refine RunT.ot1 (x := .ptr 40 0) (p0 := (40, some (.box [.v (.int .i64 0), .v (.string (⟨#[]⟩ : ByteArray)), .v (.int .i64 0), .v (.int .i64 0), .v (.int .i64 0), .v (.int .i64 0), .v (.int .i64 0), .v (.int .i64 0), .v (.int .i64 0)]))) (n' := 48) rfl rfl rfl rfl (.allocX in51.zero rfl rfl) rfl ?_
              refine RunT.on1 (x := .junk) (p0 := (40, some (.box [.v (.int .i64 r26.1.Kind), .v (.string r26.1.Text), .v (.int .i64 r26.1.Order.Id), .v (.int .i64 r26.1.Order.State), .v (.int .i64 r26.1.Order.Party.Size), .v (.int .i64 r26.1.Order.Party.Wheels), .v (.int .i64 r26.1.Order.Until), .v (.int .i64 r26.1.Order.First), .v (.int .i64 r26.1.Time)]))) (n' := 56) rfl rfl rfl (.storePX ty51 rfl rfl rfl rfl rfl rfl rfl) rfl ?_
              refine RunT.ot0 (x := .v (.int .i64 r26.2)) rfl rfl rfl rfl (.assignX rfl) ?_
              refine RunT.nil ?_
              refine T.seq ?_
              refine T.sub (sub_pick [2, 3, 12, 13] [0, 40] (st' := ⟨[(2, .v (.int .u8 a2)), (3, .ptr 0 0), (12, .ptr 40 0), (13, .v (.int .i64 r26.2))], [(0, some (.box [.v (.int .i64 a0.Kind), .v (.string a0.Text), .v (.int .i64 a0.Order.Id), .v (.int .i64 a0.Order.State), .v (.int .i64 a0.Order.Party.Size), .v (.int .i64 a0.Order.Party.Wheels), .v (.int .i64 a0.Order.Until), .v (.int .i64 a0.Order.First), .v (.int .i64 a0.Time)])), (40, some (.box [.v (.int .i64 r26.1.Kind), .v (.string r26.1.Text), .v (.int .i64 r26.1.Order.Id), .v (.int .i64 r26.1.Order.State), .v (.int .i64 r26.1.Order.Party.Size), .v (.int .i64 r26.1.Order.Party.Wheels), .v (.int .i64 r26.1.Order.Until), .v (.int .i64 r26.1.Order.First), .v (.int .i64 r26.1.Time)]))], 56, []⟩) rfl rfl rfl rfl rfl) ?_
              refine T.region ?_
              obtain ⟨r28, h29, H⟩ := bs H
              refine RunT.ot0 (x := .v (.bool r28)) rfl rfl rfl rfl (.callp (law22_told_pc false k  r28 h29) rfl trivial rfl rfl rfl) ?_
              refine RunT.ot0 (x := .v (.bool r28)) rfl rfl rfl rfl (.moveX rfl) ?_
              refine RunT.cases (t := 71) (c := r28) rfl (fun g30 => ?_) (fun g30 => ?_)
              · replace H := ct H g30
                refine RunT.gt0 (x := .v (.int .i64 r26.2)) rfl rfl rfl (bo g30) rfl rfl (.moveX rfl) ?_
                refine RunT.gt0 (x := .v (.bool (decide (r26.2 = 0)))) rfl rfl rfl (bo g30) rfl rfl (.bin rfl rfl (fun w => b_eql w) rfl) ?_
                refine RunT.gt0 (x := .v (.bool (decide (r26.2 = 0)))) rfl rfl rfl (bo g30) rfl rfl (.moveX rfl) ?_
                refine RunT.cases (t := 74) (c := decide (r26.2 = 0)) rfl (fun g31 => ?_) (fun g31 => ?_)
                · replace H := ct H g31
                  refine RunT.xn rfl rfl rfl (bo g31) rfl rfl ?_
                  refine RunT.xn rfl rfl rfl (bo g31) rfl rfl ?_
                  refine RunT.gt0 (x := .v (.bool true)) rfl rfl rfl (bo g30) rfl rfl (.pickT (bo g31) rfl) ?_
                  refine RunT.ot0 (x := .v (.bool true)) rfl rfl rfl rfl (.pickT (bo g30) rfl) ?_
                  refine RunT.ot0 (x := .v (.bool true)) rfl rfl rfl rfl (.moveX rfl) ?_
                  refine RunT.gt0 (x := .v (.int .i64 r26.2)) rfl rfl rfl rfl rfl rfl (.moveX rfl) ?_
                  refine RunT.gt0 (x := .v (.bool (!decide (r26.2 = 0)))) rfl rfl rfl rfl rfl rfl (.bin rfl rfl (fun w => b_neq w) rfl) ?_
                  refine RunT.gt0 (x := .v (.bool (!decide (r26.2 = 0)))) rfl rfl rfl rfl rfl rfl (.moveX rfl) ?_
                  refine RunT.cases (t := 82) (c := !decide (r26.2 = 0)) rfl (fun g32 => ?_) (fun g32 => ?_)
                  · replace H := ct H g32
                    refine RunT.xn rfl rfl rfl (bo g32) rfl rfl ?_
                    refine RunT.xn rfl rfl rfl (bo g32) rfl rfl ?_
                    refine RunT.xn rfl rfl rfl (bo g32) rfl rfl ?_
                    refine RunT.xn rfl rfl rfl (bo g32) rfl rfl ?_
                    refine RunT.xn rfl rfl rfl (bo g32) rfl rfl ?_
                    refine RunT.xn rfl rfl rfl (bo g32) rfl rfl ?_
                    refine RunT.gt0 (x := .v (.bool true)) rfl rfl rfl rfl rfl rfl (.pickT (bo g32) rfl) ?_
                    refine RunT.ot0 (x := .v (.bool true)) rfl rfl rfl rfl (.pickT rfl rfl) ?_
                    refine RunT.ot0 (x := .v (.bool true)) rfl rfl rfl rfl (.moveX rfl) ?_
                    refine RunT.gt0 (x := .v (.int .u8 a2)) rfl rfl rfl rfl rfl rfl (.moveX rfl) ?_
                    refine RunT.gt0 (x := .v (.bool (!decide (a2 = 0)))) rfl rfl rfl rfl rfl rfl (.bin rfl rfl (fun w => b_neq w) rfl) ?_
                    refine RunT.gt0 (x := .v (.bool (!decide (a2 = 0)))) rfl rfl rfl rfl rfl rfl (.moveX rfl) ?_
                    refine RunT.cases (t := 94) (c := !decide (a2 = 0)) rfl (fun g33 => ?_) (fun g33 => ?_)
                    · replace H := ct H g33
                      refine RunT.xn rfl rfl rfl (bo g33) rfl rfl ?_
                      refine RunT.xn rfl rfl rfl (bo g33) rfl rfl ?_
                      refine RunT.gt0 (x := .v (.bool true)) rfl rfl rfl rfl rfl rfl (.pickT (bo g33) rfl) ?_
                      refine RunT.ot0 (x := .v (.bool true)) rfl rfl rfl rfl (.pickT rfl rfl) ?_
                      refine RunT.ot0 (x := .v (.bool true)) rfl rfl rfl rfl (.assignX rfl) ?_
                      refine RunT.nil ?_
                      obtain rfl := si H
                      refine T.sub (sub_to (st' := ⟨[(6, .v (.bool true))], [], 8, []⟩) [] (by decide) rfl rfl (⟨⟨_, rfl, .one .v⟩, trivial⟩) (trivial)) ?_
                      refine T.ret ?_
                      exact RetOk.same [.v (.bool true)] ⟨rfl, trivial⟩ rfl rfl rfl
                    · replace H := cf H g33
                      refine RunT.gt0 (x := .v (.int .i64 r26.2)) rfl rfl rfl (bo g33) rfl rfl (.moveX rfl) ?_
                      refine RunT.gt0 (x := .v (.bool (decide (r26.2 = 0)))) rfl rfl rfl (bo g33) rfl rfl (.bin rfl rfl (fun w => b_eql w) rfl) ?_
                      refine RunT.gt0 (x := .v (.bool (decide (r26.2 = 0)))) rfl rfl rfl rfl rfl rfl (.pickF (bo g33) rfl) ?_
                      refine RunT.ot0 (x := .v (.bool (decide (r26.2 = 0)))) rfl rfl rfl rfl (.pickT rfl rfl) ?_
                      refine RunT.ot0 (x := .v (.bool (decide (r26.2 = 0)))) rfl rfl rfl rfl (.assignX rfl) ?_
                      refine RunT.nil ?_
                      obtain rfl := si H
                      refine T.sub (sub_to (st' := ⟨[(6, .v (.bool (decide (r26.2 = 0))))], [], 8, []⟩) [] (by decide) rfl rfl (⟨⟨_, rfl, .one .v⟩, trivial⟩) (trivial)) ?_
                      refine T.ret ?_
                      exact RetOk.same [.v (.bool (decide (r26.2 = 0)))] ⟨rfl, trivial⟩ rfl rfl rfl
                  · replace H := cf H g32
                    refine RunT.gt0 (x := .agg [.v (.int .i64 r26.1.Kind), .v (.string r26.1.Text), .v (.int .i64 r26.1.Order.Id), .v (.int .i64 r26.1.Order.State), .v (.int .i64 r26.1.Order.Party.Size), .v (.int .i64 r26.1.Order.Party.Wheels), .v (.int .i64 r26.1.Order.Until), .v (.int .i64 r26.1.Order.First), .v (.int .i64 r26.1.Time)]) rfl rfl rfl (bo g32) rfl rfl (.loadP ty51 rfl rfl rfl) ?_
                    refine RunT.gt0 (x := .agg [.v (.int .i64 a0.Kind), .v (.string a0.Text), .v (.int .i64 a0.Order.Id), .v (.int .i64 a0.Order.State), .v (.int .i64 a0.Order.Party.Size), .v (.int .i64 a0.Order.Party.Wheels), .v (.int .i64 a0.Order.Until), .v (.int .i64 a0.Order.First), .v (.int .i64 a0.Time)]) rfl rfl rfl (bo g32) rfl rfl (.loadP ty51 rfl rfl rfl) ?_
                    refine RunT.gt0 (x := .v (.bool (decide (r26.1 = a0)))) rfl rfl rfl (bo g32) rfl rfl (.binA (us := us_Record (r26.1)) (vs := us_Record (a0)) rfl rfl (fun w => eq_Record (r26.1) (a0) w) rfl) ?_
                    refine RunT.gt0 (x := .v (.int .u8 a2)) rfl rfl rfl (bo g32) rfl rfl (.moveX rfl) ?_
                    refine RunT.gt0 (x := .v (.bool (decide (a2 = 0)))) rfl rfl rfl (bo g32) rfl rfl (.bin rfl rfl (fun w => b_eql w) rfl) ?_
                    refine RunT.gt0 (x := .v (.bool ((decide (r26.1 = a0)) == (decide (a2 = 0))))) rfl rfl rfl (bo g32) rfl rfl (.bin rfl rfl (fun w => b_eqB w Try.underlying4) rfl) ?_
                    refine RunT.gt0 (x := .v (.bool ((decide (r26.1 = a0)) == (decide (a2 = 0))))) rfl rfl rfl rfl rfl rfl (.pickF (bo g32) rfl) ?_
                    refine RunT.ot0 (x := .v (.bool ((decide (r26.1 = a0)) == (decide (a2 = 0))))) rfl rfl rfl rfl (.pickT rfl rfl) ?_
                    refine RunT.ot0 (x := .v (.bool ((decide (r26.1 = a0)) == (decide (a2 = 0))))) rfl rfl rfl rfl (.moveX rfl) ?_
                    refine RunT.cases (t := 91) (c := (decide (r26.1 = a0)) == (decide (a2 = 0))) rfl (fun g34 => ?_) (fun g34 => ?_)
                    · replace H := ct H g34
                      refine RunT.gt0 (x := .v (.int .u8 a2)) rfl rfl rfl (bo g34) rfl rfl (.moveX rfl) ?_
                      refine RunT.gt0 (x := .v (.bool (!decide (a2 = 0)))) rfl rfl rfl (bo g34) rfl rfl (.bin rfl rfl (fun w => b_neq w) rfl) ?_
                      refine RunT.gt0 (x := .v (.bool (!decide (a2 = 0)))) rfl rfl rfl (bo g34) rfl rfl (.moveX rfl) ?_
                      refine RunT.cases (t := 94) (c := !decide (a2 = 0)) rfl (fun g35 => ?_) (fun g35 => ?_)
                      · replace H := ct H g35
                        refine RunT.xn rfl rfl rfl (bo g35) rfl rfl ?_
                        refine RunT.xn rfl rfl rfl (bo g35) rfl rfl ?_
                        refine RunT.gt0 (x := .v (.bool true)) rfl rfl rfl (bo g34) rfl rfl (.pickT (bo g35) rfl) ?_
                        refine RunT.ot0 (x := .v (.bool true)) rfl rfl rfl rfl (.pickT (bo g34) rfl) ?_
                        refine RunT.ot0 (x := .v (.bool true)) rfl rfl rfl rfl (.assignX rfl) ?_
                        refine RunT.nil ?_
                        obtain rfl := si H
                        refine T.sub (sub_to (st' := ⟨[(6, .v (.bool true))], [], 8, []⟩) [] (by decide) rfl rfl (⟨⟨_, rfl, .one .v⟩, trivial⟩) (trivial)) ?_
                        refine T.ret ?_
                        exact RetOk.same [.v (.bool true)] ⟨rfl, trivial⟩ rfl rfl rfl
                      · replace H := cf H g35
                        refine RunT.gt0 (x := .v (.int .i64 r26.2)) rfl rfl rfl (bo g35) rfl rfl (.moveX rfl) ?_
                        refine RunT.gt0 (x := .v (.bool (decide (r26.2 = 0)))) rfl rfl rfl (bo g35) rfl rfl (.bin rfl rfl (fun w => b_eql w) rfl) ?_
                        refine RunT.gt0 (x := .v (.bool (decide (r26.2 = 0)))) rfl rfl rfl (bo g34) rfl rfl (.pickF (bo g35) rfl) ?_
                        refine RunT.ot0 (x := .v (.bool (decide (r26.2 = 0)))) rfl rfl rfl rfl (.pickT (bo g34) rfl) ?_
                        refine RunT.ot0 (x := .v (.bool (decide (r26.2 = 0)))) rfl rfl rfl rfl (.assignX rfl) ?_
                        refine RunT.nil ?_
                        obtain rfl := si H
                        refine T.sub (sub_to (st' := ⟨[(6, .v (.bool (decide (r26.2 = 0))))], [], 8, []⟩) [] (by decide) rfl rfl (⟨⟨_, rfl, .one .v⟩, trivial⟩) (trivial)) ?_
                        refine T.ret ?_
                        exact RetOk.same [.v (.bool (decide (r26.2 = 0)))] ⟨rfl, trivial⟩ rfl rfl rfl
                    · replace H := cf H g34
                      refine RunT.xn rfl rfl rfl (bo g34) rfl rfl ?_
                      refine RunT.xn rfl rfl rfl (bo g34) rfl rfl ?_
                      refine RunT.xn rfl rfl rfl (bo g34) rfl rfl ?_
                      refine RunT.xu rfl rfl rfl rfl rfl rfl ?_
                      refine RunT.xu rfl rfl rfl rfl rfl rfl ?_
                      refine RunT.xn rfl rfl rfl (bo g34) rfl rfl ?_
                      refine RunT.ot0 (x := .v (.bool false)) rfl rfl rfl rfl (.pickF (bo g34) rfl) ?_
                      refine RunT.ot0 (x := .v (.bool false)) rfl rfl rfl rfl (.assignX rfl) ?_
                      refine RunT.nil ?_
                      obtain rfl := si H
                      refine T.sub (sub_to (st' := ⟨[(6, .v (.bool false))], [], 8, []⟩) [] (by decide) rfl rfl (⟨⟨_, rfl, .one .v⟩, trivial⟩) (trivial)) ?_
                      refine T.ret ?_
                      exact RetOk.same [.v (.bool false)] ⟨rfl, trivial⟩ rfl rfl rfl
                · replace H := cf H g31
                  refine RunT.gt0 (x := .v (.int .i64 r26.2)) rfl rfl rfl (bo g31) rfl rfl (.moveX rfl) ?_
                  refine RunT.gt0 (x := .v (.bool (decide (r26.2 = 10)))) rfl rfl rfl (bo g31) rfl rfl (.bin rfl rfl (fun w => b_eql w) rfl) ?_
                  refine RunT.gt0 (x := .v (.bool (decide (r26.2 = 10)))) rfl rfl rfl (bo g30) rfl rfl (.pickF (bo g31) rfl) ?_
                  refine RunT.ot0 (x := .v (.bool (decide (r26.2 = 10)))) rfl rfl rfl rfl (.pickT (bo g30) rfl) ?_
                  refine RunT.ot0 (x := .v (.bool (decide (r26.2 = 10)))) rfl rfl rfl rfl (.moveX rfl) ?_
                  refine RunT.cases (t := 79) (c := decide (r26.2 = 10)) rfl (fun g36 => ?_) (fun g36 => ?_)
                  · replace H := ct H g36
                    refine RunT.gt0 (x := .v (.int .i64 r26.2)) rfl rfl rfl (bo g36) rfl rfl (.moveX rfl) ?_
                    refine RunT.gt0 (x := .v (.bool (!decide (r26.2 = 0)))) rfl rfl rfl (bo g36) rfl rfl (.bin rfl rfl (fun w => b_neq w) rfl) ?_
                    refine RunT.gt0 (x := .v (.bool (!decide (r26.2 = 0)))) rfl rfl rfl (bo g36) rfl rfl (.moveX rfl) ?_
                    refine RunT.cases (t := 82) (c := !decide (r26.2 = 0)) rfl (fun g37 => ?_) (fun g37 => ?_)
                    · replace H := ct H g37
                      refine RunT.xn rfl rfl rfl (bo g37) rfl rfl ?_
                      refine RunT.xn rfl rfl rfl (bo g37) rfl rfl ?_
                      refine RunT.xn rfl rfl rfl (bo g37) rfl rfl ?_
                      refine RunT.xn rfl rfl rfl (bo g37) rfl rfl ?_
                      refine RunT.xn rfl rfl rfl (bo g37) rfl rfl ?_
                      refine RunT.xn rfl rfl rfl (bo g37) rfl rfl ?_
                      refine RunT.gt0 (x := .v (.bool true)) rfl rfl rfl (bo g36) rfl rfl (.pickT (bo g37) rfl) ?_
                      refine RunT.ot0 (x := .v (.bool true)) rfl rfl rfl rfl (.pickT (bo g36) rfl) ?_
                      refine RunT.ot0 (x := .v (.bool true)) rfl rfl rfl rfl (.moveX rfl) ?_
                      refine RunT.gt0 (x := .v (.int .u8 a2)) rfl rfl rfl rfl rfl rfl (.moveX rfl) ?_
                      refine RunT.gt0 (x := .v (.bool (!decide (a2 = 0)))) rfl rfl rfl rfl rfl rfl (.bin rfl rfl (fun w => b_neq w) rfl) ?_
                      refine RunT.gt0 (x := .v (.bool (!decide (a2 = 0)))) rfl rfl rfl rfl rfl rfl (.moveX rfl) ?_
                      refine RunT.cases (t := 94) (c := !decide (a2 = 0)) rfl (fun g38 => ?_) (fun g38 => ?_)
                      · replace H := ct H g38
                        refine RunT.xn rfl rfl rfl (bo g38) rfl rfl ?_
                        refine RunT.xn rfl rfl rfl (bo g38) rfl rfl ?_
                        refine RunT.gt0 (x := .v (.bool true)) rfl rfl rfl rfl rfl rfl (.pickT (bo g38) rfl) ?_
                        refine RunT.ot0 (x := .v (.bool true)) rfl rfl rfl rfl (.pickT rfl rfl) ?_
                        refine RunT.ot0 (x := .v (.bool true)) rfl rfl rfl rfl (.assignX rfl) ?_
                        refine RunT.nil ?_
                        obtain rfl := si H
                        refine T.sub (sub_to (st' := ⟨[(6, .v (.bool true))], [], 8, []⟩) [] (by decide) rfl rfl (⟨⟨_, rfl, .one .v⟩, trivial⟩) (trivial)) ?_
                        refine T.ret ?_
                        exact RetOk.same [.v (.bool true)] ⟨rfl, trivial⟩ rfl rfl rfl
                      · replace H := cf H g38
                        refine RunT.gt0 (x := .v (.int .i64 r26.2)) rfl rfl rfl (bo g38) rfl rfl (.moveX rfl) ?_
                        refine RunT.gt0 (x := .v (.bool (decide (r26.2 = 0)))) rfl rfl rfl (bo g38) rfl rfl (.bin rfl rfl (fun w => b_eql w) rfl) ?_
                        refine RunT.gt0 (x := .v (.bool (decide (r26.2 = 0)))) rfl rfl rfl rfl rfl rfl (.pickF (bo g38) rfl) ?_
                        refine RunT.ot0 (x := .v (.bool (decide (r26.2 = 0)))) rfl rfl rfl rfl (.pickT rfl rfl) ?_
                        refine RunT.ot0 (x := .v (.bool (decide (r26.2 = 0)))) rfl rfl rfl rfl (.assignX rfl) ?_
                        refine RunT.nil ?_
                        obtain rfl := si H
                        refine T.sub (sub_to (st' := ⟨[(6, .v (.bool (decide (r26.2 = 0))))], [], 8, []⟩) [] (by decide) rfl rfl (⟨⟨_, rfl, .one .v⟩, trivial⟩) (trivial)) ?_
                        refine T.ret ?_
                        exact RetOk.same [.v (.bool (decide (r26.2 = 0)))] ⟨rfl, trivial⟩ rfl rfl rfl
                    · replace H := cf H g37
                      refine RunT.gt0 (x := .agg [.v (.int .i64 r26.1.Kind), .v (.string r26.1.Text), .v (.int .i64 r26.1.Order.Id), .v (.int .i64 r26.1.Order.State), .v (.int .i64 r26.1.Order.Party.Size), .v (.int .i64 r26.1.Order.Party.Wheels), .v (.int .i64 r26.1.Order.Until), .v (.int .i64 r26.1.Order.First), .v (.int .i64 r26.1.Time)]) rfl rfl rfl (bo g37) rfl rfl (.loadP ty51 rfl rfl rfl) ?_
                      refine RunT.gt0 (x := .agg [.v (.int .i64 a0.Kind), .v (.string a0.Text), .v (.int .i64 a0.Order.Id), .v (.int .i64 a0.Order.State), .v (.int .i64 a0.Order.Party.Size), .v (.int .i64 a0.Order.Party.Wheels), .v (.int .i64 a0.Order.Until), .v (.int .i64 a0.Order.First), .v (.int .i64 a0.Time)]) rfl rfl rfl (bo g37) rfl rfl (.loadP ty51 rfl rfl rfl) ?_
                      refine RunT.gt0 (x := .v (.bool (decide (r26.1 = a0)))) rfl rfl rfl (bo g37) rfl rfl (.binA (us := us_Record (r26.1)) (vs := us_Record (a0)) rfl rfl (fun w => eq_Record (r26.1) (a0) w) rfl) ?_
                      refine RunT.gt0 (x := .v (.int .u8 a2)) rfl rfl rfl (bo g37) rfl rfl (.moveX rfl) ?_
                      refine RunT.gt0 (x := .v (.bool (decide (a2 = 0)))) rfl rfl rfl (bo g37) rfl rfl (.bin rfl rfl (fun w => b_eql w) rfl) ?_
                      refine RunT.gt0 (x := .v (.bool ((decide (r26.1 = a0)) == (decide (a2 = 0))))) rfl rfl rfl (bo g37) rfl rfl (.bin rfl rfl (fun w => b_eqB w Try.underlying4) rfl) ?_
                      refine RunT.gt0 (x := .v (.bool ((decide (r26.1 = a0)) == (decide (a2 = 0))))) rfl rfl rfl (bo g36) rfl rfl (.pickF (bo g37) rfl) ?_
                      refine RunT.ot0 (x := .v (.bool ((decide (r26.1 = a0)) == (decide (a2 = 0))))) rfl rfl rfl rfl (.pickT (bo g36) rfl) ?_
                      refine RunT.ot0 (x := .v (.bool ((decide (r26.1 = a0)) == (decide (a2 = 0))))) rfl rfl rfl rfl (.moveX rfl) ?_
                      refine RunT.cases (t := 91) (c := (decide (r26.1 = a0)) == (decide (a2 = 0))) rfl (fun g39 => ?_) (fun g39 => ?_)
                      · replace H := ct H g39
                        refine RunT.gt0 (x := .v (.int .u8 a2)) rfl rfl rfl (bo g39) rfl rfl (.moveX rfl) ?_
                        refine RunT.gt0 (x := .v (.bool (!decide (a2 = 0)))) rfl rfl rfl (bo g39) rfl rfl (.bin rfl rfl (fun w => b_neq w) rfl) ?_
                        refine RunT.gt0 (x := .v (.bool (!decide (a2 = 0)))) rfl rfl rfl (bo g39) rfl rfl (.moveX rfl) ?_
                        refine RunT.cases (t := 94) (c := !decide (a2 = 0)) rfl (fun g40 => ?_) (fun g40 => ?_)
                        · replace H := ct H g40
                          refine RunT.xn rfl rfl rfl (bo g40) rfl rfl ?_
                          refine RunT.xn rfl rfl rfl (bo g40) rfl rfl ?_
                          refine RunT.gt0 (x := .v (.bool true)) rfl rfl rfl (bo g39) rfl rfl (.pickT (bo g40) rfl) ?_
                          refine RunT.ot0 (x := .v (.bool true)) rfl rfl rfl rfl (.pickT (bo g39) rfl) ?_
                          refine RunT.ot0 (x := .v (.bool true)) rfl rfl rfl rfl (.assignX rfl) ?_
                          refine RunT.nil ?_
                          obtain rfl := si H
                          refine T.sub (sub_to (st' := ⟨[(6, .v (.bool true))], [], 8, []⟩) [] (by decide) rfl rfl (⟨⟨_, rfl, .one .v⟩, trivial⟩) (trivial)) ?_
                          refine T.ret ?_
                          exact RetOk.same [.v (.bool true)] ⟨rfl, trivial⟩ rfl rfl rfl
                        · replace H := cf H g40
                          refine RunT.gt0 (x := .v (.int .i64 r26.2)) rfl rfl rfl (bo g40) rfl rfl (.moveX rfl) ?_
                          refine RunT.gt0 (x := .v (.bool (decide (r26.2 = 0)))) rfl rfl rfl (bo g40) rfl rfl (.bin rfl rfl (fun w => b_eql w) rfl) ?_
                          refine RunT.gt0 (x := .v (.bool (decide (r26.2 = 0)))) rfl rfl rfl (bo g39) rfl rfl (.pickF (bo g40) rfl) ?_
                          refine RunT.ot0 (x := .v (.bool (decide (r26.2 = 0)))) rfl rfl rfl rfl (.pickT (bo g39) rfl) ?_
                          refine RunT.ot0 (x := .v (.bool (decide (r26.2 = 0)))) rfl rfl rfl rfl (.assignX rfl) ?_
                          refine RunT.nil ?_
                          obtain rfl := si H
                          refine T.sub (sub_to (st' := ⟨[(6, .v (.bool (decide (r26.2 = 0))))], [], 8, []⟩) [] (by decide) rfl rfl (⟨⟨_, rfl, .one .v⟩, trivial⟩) (trivial)) ?_
                          refine T.ret ?_
                          exact RetOk.same [.v (.bool (decide (r26.2 = 0)))] ⟨rfl, trivial⟩ rfl rfl rfl
                      · replace H := cf H g39
                        refine RunT.xn rfl rfl rfl (bo g39) rfl rfl ?_
                        refine RunT.xn rfl rfl rfl (bo g39) rfl rfl ?_
                        refine RunT.xn rfl rfl rfl (bo g39) rfl rfl ?_
                        refine RunT.xu rfl rfl rfl rfl rfl rfl ?_
                        refine RunT.xu rfl rfl rfl rfl rfl rfl ?_
                        refine RunT.xn rfl rfl rfl (bo g39) rfl rfl ?_
                        refine RunT.ot0 (x := .v (.bool false)) rfl rfl rfl rfl (.pickF (bo g39) rfl) ?_
                        refine RunT.ot0 (x := .v (.bool false)) rfl rfl rfl rfl (.assignX rfl) ?_
                        refine RunT.nil ?_
                        obtain rfl := si H
                        refine T.sub (sub_to (st' := ⟨[(6, .v (.bool false))], [], 8, []⟩) [] (by decide) rfl rfl (⟨⟨_, rfl, .one .v⟩, trivial⟩) (trivial)) ?_
                        refine T.ret ?_
                        exact RetOk.same [.v (.bool false)] ⟨rfl, trivial⟩ rfl rfl rfl
                  · replace H := cf H g36
                    refine RunT.xn rfl rfl rfl (bo g36) rfl rfl ?_
                    refine RunT.xn rfl rfl rfl (bo g36) rfl rfl ?_
                    refine RunT.xn rfl rfl rfl (bo g36) rfl rfl ?_
                    refine RunT.xu rfl rfl rfl rfl rfl rfl ?_
                    refine RunT.xu rfl rfl rfl rfl rfl rfl ?_
                    refine RunT.xu rfl rfl rfl rfl rfl rfl ?_
                    refine RunT.xu rfl rfl rfl rfl rfl rfl ?_
                    refine RunT.xu rfl rfl rfl rfl rfl rfl ?_
                    refine RunT.xu rfl rfl rfl rfl rfl rfl ?_
                    refine RunT.xn rfl rfl rfl (bo g36) rfl rfl ?_
                    refine RunT.ot0 (x := .v (.bool false)) rfl rfl rfl rfl (.pickF (bo g36) rfl) ?_
                    refine RunT.ot0 (x := .v (.bool false)) rfl rfl rfl rfl (.moveX rfl) ?_
                    refine RunT.xn rfl rfl rfl rfl rfl rfl ?_
                    refine RunT.xn rfl rfl rfl rfl rfl rfl ?_
                    refine RunT.xn rfl rfl rfl rfl rfl rfl ?_
                    refine RunT.xu rfl rfl rfl rfl rfl rfl ?_
                    refine RunT.xu rfl rfl rfl rfl rfl rfl ?_
                    refine RunT.xn rfl rfl rfl rfl rfl rfl ?_
                    refine RunT.ot0 (x := .v (.bool false)) rfl rfl rfl rfl (.pickF rfl rfl) ?_
                    refine RunT.ot0 (x := .v (.bool false)) rfl rfl rfl rfl (.assignX rfl) ?_
                    refine RunT.nil ?_
                    obtain rfl := si H
                    refine T.sub (sub_to (st' := ⟨[(6, .v (.bool false))], [], 8, []⟩) [] (by decide) rfl rfl (⟨⟨_, rfl, .one .v⟩, trivial⟩) (trivial)) ?_
                    refine T.ret ?_
                    exact RetOk.same [.v (.bool false)] ⟨rfl, trivial⟩ rfl rfl rfl
              · replace H := cf H g30
                refine RunT.xn rfl rfl rfl (bo g30) rfl rfl ?_
                refine RunT.xn rfl rfl rfl (bo g30) rfl rfl ?_
                refine RunT.xn rfl rfl rfl (bo g30) rfl rfl ?_
                refine RunT.xu rfl rfl rfl rfl rfl rfl ?_
                refine RunT.xu rfl rfl rfl rfl rfl rfl ?_
                refine RunT.xn rfl rfl rfl (bo g30) rfl rfl ?_
                refine RunT.ot0 (x := .v (.bool false)) rfl rfl rfl rfl (.pickF (bo g30) rfl) ?_
                refine RunT.ot0 (x := .v (.bool false)) rfl rfl rfl rfl (.moveX rfl) ?_
                refine RunT.xn rfl rfl rfl rfl rfl rfl ?_
                refine RunT.xn rfl rfl rfl rfl rfl rfl ?_
                refine RunT.xn rfl rfl rfl rfl rfl rfl ?_
                refine RunT.xu rfl rfl rfl rfl rfl rfl ?_
                refine RunT.xu rfl rfl rfl rfl rfl rfl ?_
                refine RunT.xu rfl rfl rfl rfl rfl rfl ?_
                refine RunT.xu rfl rfl rfl rfl rfl rfl ?_
                refine RunT.xu rfl rfl rfl rfl rfl rfl ?_
                refine RunT.xu rfl rfl rfl rfl rfl rfl ?_
                refine RunT.xn rfl rfl rfl rfl rfl rfl ?_
                refine RunT.ot0 (x := .v (.bool false)) rfl rfl rfl rfl (.pickF rfl rfl) ?_
                refine RunT.ot0 (x := .v (.bool false)) rfl rfl rfl rfl (.moveX rfl) ?_
                refine RunT.xn rfl rfl rfl rfl rfl rfl ?_
                refine RunT.xn rfl rfl rfl rfl rfl rfl ?_
                refine RunT.xn rfl rfl rfl rfl rfl rfl ?_
                refine RunT.xu rfl rfl rfl rfl rfl rfl ?_
                refine RunT.xu rfl rfl rfl rfl rfl rfl ?_
                refine RunT.xn rfl rfl rfl rfl rfl rfl ?_
                refine RunT.ot0 (x := .v (.bool false)) rfl rfl rfl rfl (.pickF rfl rfl) ?_
                refine RunT.ot0 (x := .v (.bool false)) rfl rfl rfl rfl (.assignX rfl) ?_
                refine RunT.nil ?_
                obtain rfl := si H
                refine T.sub (sub_to (st' := ⟨[(6, .v (.bool false))], [], 8, []⟩) [] (by decide) rfl rfl (⟨⟨_, rfl, .one .v⟩, trivial⟩) (trivial)) ?_
                refine T.ret ?_
                exact RetOk.same [.v (.bool false)] ⟨rfl, trivial⟩ rfl rfl rfl
end Go.Proofs.Ytijfhnpmdhonhaa
