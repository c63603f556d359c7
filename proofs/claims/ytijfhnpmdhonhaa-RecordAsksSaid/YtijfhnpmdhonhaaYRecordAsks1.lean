/- The Go functions come to just what their plain forms come to: one contract each. -/
import Derived.Test.YtijfhnpmdhonhaaYRecordAsks0
set_option linter.unusedVariables false
set_option linter.unusedSimpArgs false
set_option maxRecDepth 100000
namespace Go.Proofs.Ytijfhnpmdhonhaa
open Go Go.Sh Go.Px
attribute [local irreducible] Go.Sh.T Go.Sh.RunT Go.Sh.RunD
set_option maxHeartbeats 4000000 in
theorem law22_told_pc (al : Bool) (k : Nat)  (o : Bool) (H : law22_told k  = some o) : PC Try.prog al 32 [] (.v (.bool o)) := by
  unfold law22_told at H
  refine PC.of_T Try.func32 rfl rfl (n := 127) rfl rfl (.inr rfl) ?_
  intro base B w0
  refine T.st (st' := ⟨[], [], 0, []⟩) rfl ?_
  refine T.seq ?_
  refine T.region ?_
  refine RunT.ot0 (x := .v (.bool false)) rfl rfl rfl rfl (.assignX rfl) ?_
  refine RunT.nil ?_
  refine T.seq ?_
  refine T.region ?_
  refine RunT.ot0 (x := .agg [.v (.int .i64 2), .v (.int .i64 0)]) rfl rfl rfl rfl (.bu bu23 rfl) ?_
  refine RunT.ot0 (x := .agg [.v (.int .i64 258), .v (.int .i64 1), .v (.int .i64 2), .v (.int .i64 0), .v (.int .i64 5), .v (.int .i64 (-1))]) rfl rfl rfl rfl (.bu bu49 rfl) ?_
  refine RunT.ot0 (x := .agg [.v (.int .i64 2), .v (.string (⟨#[]⟩ : ByteArray)), .v (.int .i64 258), .v (.int .i64 1), .v (.int .i64 2), .v (.int .i64 0), .v (.int .i64 5), .v (.int .i64 (-1)), .v (.int .i64 0)]) rfl rfl rfl rfl (.bu bu51 rfl) ?_
  refine RunT.ot1 (x := .ptr 0 0) (p0 := (0, some (.box [.v (.int .i64 0), .v (.string (⟨#[]⟩ : ByteArray)), .v (.int .i64 0), .v (.int .i64 0), .v (.int .i64 0), .v (.int .i64 0), .v (.int .i64 0), .v (.int .i64 0), .v (.int .i64 0)]))) (n' := 8) rfl rfl rfl rfl (.allocX in51.zero rfl rfl) rfl ?_
  refine RunT.on1 (x := .junk) (p0 := (0, some (.box [.v (.int .i64 2), .v (.string (⟨#[]⟩ : ByteArray)), .v (.int .i64 258), .v (.int .i64 1), .v (.int .i64 2), .v (.int .i64 0), .v (.int .i64 5), .v (.int .i64 (-1)), .v (.int .i64 0)]))) (n' := 16) rfl rfl rfl (.storePX ty51 rfl rfl rfl rfl rfl rfl rfl) rfl ?_
  refine RunT.nil ?_
  refine T.seq ?_
  refine T.region ?_
  refine RunT.ot0 (x := .agg [.v (.int .i64 2), .v (.string (⟨#[]⟩ : ByteArray)), .v (.int .i64 258), .v (.int .i64 1), .v (.int .i64 2), .v (.int .i64 0), .v (.int .i64 5), .v (.int .i64 (-1)), .v (.int .i64 0)]) rfl rfl rfl rfl (.loadP ty51 rfl rfl rfl) ?_
  obtain ⟨r1, h2, H⟩ := bs H
  refine RunT.ot0 (x := .tup [.lst (List.map eU8 r1.1), .v (.int .i64 r1.2)]) rfl rfl rfl rfl (.callp (PC.frozen (record_Put_pc false k (Record.mk 2 (⟨#[]⟩ : ByteArray) (Order.mk 258 1 (Party.mk 2 0) 5 (-1)) 0) r1 h2)) rfl ⟨(.agg' ⟨.v, .v, .v, .v, .v, .v, .v, .v, .v, trivial⟩), trivial⟩ rfl rfl rfl) ?_
  refine RunT.ot0 (x := .tup [.lst (List.map eU8 r1.1), .v (.int .i64 r1.2)]) rfl rfl rfl rfl (.moveX rfl) ?_
  refine RunT.ot0 (x := .lst (List.map eU8 r1.1)) rfl rfl rfl rfl (.extract rfl rfl) ?_
  refine RunT.ot0 (x := .v (.int .i64 r1.2)) rfl rfl rfl rfl (.extract rfl rfl) ?_
  refine RunT.ot0 (x := .lst (List.map eU8 r1.1)) rfl rfl rfl rfl (.assignX rfl) ?_
  refine RunT.ot0 (x := .v (.int .i64 r1.2)) rfl rfl rfl rfl (.assignX rfl) ?_
  refine RunT.nil ?_
  refine T.seq ?_
  refine T.region ?_
  refine RunT.ot0 (x := .lst (List.map eU8 r1.1)) rfl rfl rfl rfl (.moveX rfl) ?_
  obtain ⟨r3, h4, H⟩ := bs H
  refine RunT.ot0 (x := .tup [.agg [.v (.int .i64 r3.1.Kind), .v (.string r3.1.Text), .v (.int .i64 r3.1.Order.Id), .v (.int .i64 r3.1.Order.State), .v (.int .i64 r3.1.Order.Party.Size), .v (.int .i64 r3.1.Order.Party.Wheels), .v (.int .i64 r3.1.Order.Until), .v (.int .i64 r3.1.Order.First), .v (.int .i64 r3.1.Time)], .v (.int .i64 r3.2)]) rfl rfl rfl rfl (.callp (record_Get_pc false k r1.1 r3 h4) rfl ⟨(.one .lst), trivial⟩ rfl rfl rfl) ?_
  refine RunT.ot0 (x := .tup [.agg [.v (.int .i64 r3.1.Kind), .v (.string r3.1.Text), .v (.int .i64 r3.1.Order.Id), .v (.int .i64 r3.1.Order.State), .v (.int .i64 r3.1.Order.Party.Size), .v (.int .i64 r3.1.Order.Party.Wheels), .v (.int .i64 r3.1.Order.Until), .v (.int .i64 r3.1.Order.First), .v (.int .i64 r3.1.Time)], .v (.int .i64 r3.2)]) rfl rfl rfl rfl (.moveX rfl) ?_
  refine RunT.ot0 (x := .agg [.v (.int .i64 r3.1.Kind), .v (.string r3.1.Text), .v (.int .i64 r3.1.Order.Id), .v (.int .i64 r3.1.Order.State), .v (.int .i64 r3.1.Order.Party.Size), .v (.int .i64 r3.1.Order.Party.Wheels), .v (.int .i64 r3.1.Order.Until), .v (.int .i64 r3.1.Order.First), .v (.int .i64 r3.1.Time)]) rfl rfl rfl rfl (.extract rfl rfl) ?_
  refine RunT.ot0 (x := .v (.int .i64 r3.2)) rfl rfl rfl rfl (.extract rfl rfl) ?_
  refine RunT.ot1 (x := .ptr 16 0) (p0 := (16, some (.box [.v (.int .i64 0), .v (.string (⟨#[]⟩ : ByteArray)), .v (.int .i64 0), .v (.int .i64 0), .v (.int .i64 0), .v (.int .i64 0), .v (.int .i64 0), .v (.int .i64 0), .v (.int .i64 0)]))) (n' := 24) rfl rfl rfl rfl (.allocX in51.zero rfl rfl) rfl ?_
  refine RunT.on1 (x := .junk) (p0 := (16, some (.box [.v (.int .i64 r3.1.Kind), .v (.string r3.1.Text), .v (.int .i64 r3.1.Order.Id), .v (.int .i64 r3.1.Order.State), .v (.int .i64 r3.1.Order.Party.Size), .v (.int .i64 r3.1.Order.Party.Wheels), .v (.int .i64 r3.1.Order.Until), .v (.int .i64 r3.1.Order.First), .v (.int .i64 r3.1.Time)]))) (n' := 32) rfl rfl rfl (.storePX ty51 rfl rfl rfl rfl rfl rfl rfl) rfl ?_
  refine RunT.ot0 (x := .v (.int .i64 r3.2)) rfl rfl rfl rfl (.assignX rfl) ?_
  refine RunT.nil ?_
  refine T.seq ?_
  refine T.sub (sub_pick [1, 2, 3, 4, 5] [0, 16] (st' := ⟨[(1, .ptr 0 0), (2, .lst (List.map eU8 r1.1)), (3, .v (.int .i64 r1.2)), (4, .ptr 16 0), (5, .v (.int .i64 r3.2))], [(0, some (.box [.v (.int .i64 2), .v (.string (⟨#[]⟩ : ByteArray)), .v (.int .i64 258), .v (.int .i64 1), .v (.int .i64 2), .v (.int .i64 0), .v (.int .i64 5), .v (.int .i64 (-1)), .v (.int .i64 0)])), (16, some (.box [.v (.int .i64 r3.1.Kind), .v (.string r3.1.Text), .v (.int .i64 r3.1.Order.Id), .v (.int .i64 r3.1.Order.State), .v (.int .i64 r3.1.Order.Party.Size), .v (.int .i64 r3.1.Order.Party.Wheels), .v (.int .i64 r3.1.Order.Until), .v (.int .i64 r3.1.Order.First), .v (.int .i64 r3.1.Time)]))], 32, []⟩) rfl rfl rfl rfl rfl) ?_
  refine T.region ?_
  refine RunT.ot0 (x := .agg [.v (.int .i64 4), .v (.string (⟨#[]⟩ : ByteArray)), .v (.int .i64 0), .v (.int .i64 0), .v (.int .i64 0), .v (.int .i64 0), .v (.int .i64 0), .v (.int .i64 0), .v (.int .i64 0)]) rfl rfl rfl rfl (.bu bu51 rfl) ?_
  obtain ⟨r5, h6, H⟩ := bs H
  refine RunT.ot0 (x := .tup [.lst (List.map eU8 r5.1), .v (.int .i64 r5.2)]) rfl rfl rfl rfl (.callp (PC.frozen (record_Put_pc false k (Record.mk 4 (⟨#[]⟩ : ByteArray) (Order.mk 0 0 (Party.mk 0 0) 0 0) 0) r5 h6)) rfl ⟨(.agg' ⟨.v, .v, .v, .v, .v, .v, .v, .v, .v, trivial⟩), trivial⟩ rfl rfl rfl) ?_
  refine RunT.ot0 (x := .tup [.lst (List.map eU8 r5.1), .v (.int .i64 r5.2)]) rfl rfl rfl rfl (.moveX rfl) ?_
  refine RunT.ot0 (x := .lst (List.map eU8 r5.1)) rfl rfl rfl rfl (.extract rfl rfl) ?_
  refine RunT.ot0 (x := .v (.int .i64 r5.2)) rfl rfl rfl rfl (.extract rfl rfl) ?_
  refine RunT.ot0 (x := .lst (List.map eU8 r5.1)) rfl rfl rfl rfl (.assignX rfl) ?_
  refine RunT.ot0 (x := .v (.int .i64 r5.2)) rfl rfl rfl rfl (.assignX rfl) ?_
  refine RunT.nil ?_
  refine T.seq ?_
  refine T.region ?_
  refine RunT.ot0 (x := .agg [.v (.int .i64 0), .v (.string (⟨#[]⟩ : ByteArray)), .v (.int .i64 0), .v (.int .i64 0), .v (.int .i64 0), .v (.int .i64 0), .v (.int .i64 0), .v (.int .i64 0), .v (.int .i64 0)]) rfl rfl rfl rfl (.bu bu51 rfl) ?_
  obtain ⟨r7, h8, H⟩ := bs H
  refine RunT.ot0 (x := .tup [.lst (List.map eU8 r7.1), .v (.int .i64 r7.2)]) rfl rfl rfl rfl (.callp (PC.frozen (record_Put_pc false k (Record.mk 0 (⟨#[]⟩ : ByteArray) (Order.mk 0 0 (Party.mk 0 0) 0 0) 0) r7 h8)) rfl ⟨(.agg' ⟨.v, .v, .v, .v, .v, .v, .v, .v, .v, trivial⟩), trivial⟩ rfl rfl rfl) ?_
  refine RunT.ot0 (x := .tup [.lst (List.map eU8 r7.1), .v (.int .i64 r7.2)]) rfl rfl rfl rfl (.moveX rfl) ?_
  refine RunT.ot0 (x := .lst (List.map eU8 r7.1)) rfl rfl rfl rfl (.extract rfl rfl) ?_
  refine RunT.ot0 (x := .v (.int .i64 r7.2)) rfl rfl rfl rfl (.extract rfl rfl) ?_
  refine RunT.ot0 (x := .lst (List.map eU8 r7.1)) rfl rfl rfl rfl (.assignX rfl) ?_
  refine RunT.ot0 (x := .v (.int .i64 r7.2)) rfl rfl rfl rfl (.assignX rfl) ?_
  refine RunT.nil ?_
  refine T.seq ?_
  refine T.region ?_
  obtain ⟨r9, h10, H⟩ := bs H
  refine RunT.ot0 (x := .tup [.agg [.v (.int .i64 r9.1.Kind), .v (.string r9.1.Text), .v (.int .i64 r9.1.Order.Id), .v (.int .i64 r9.1.Order.State), .v (.int .i64 r9.1.Order.Party.Size), .v (.int .i64 r9.1.Order.Party.Wheels), .v (.int .i64 r9.1.Order.Until), .v (.int .i64 r9.1.Order.First), .v (.int .i64 r9.1.Time)], .v (.int .i64 r9.2)]) rfl rfl rfl rfl (.callp (record_Get_pc false k [] r9 h10) rfl ⟨(.one .nil), trivial⟩ rfl rfl rfl) ?_
  refine RunT.ot0 (x := .tup [.agg [.v (.int .i64 r9.1.Kind), .v (.string r9.1.Text), .v (.int .i64 r9.1.Order.Id), .v (.int .i64 r9.1.Order.State), .v (.int .i64 r9.1.Order.Party.Size), .v (.int .i64 r9.1.Order.Party.Wheels), .v (.int .i64 r9.1.Order.Until), .v (.int .i64 r9.1.Order.First), .v (.int .i64 r9.1.Time)], .v (.int .i64 r9.2)]) rfl rfl rfl rfl (.moveX rfl) ?_
  refine RunT.ot0 (x := .agg [.v (.int .i64 r9.1.Kind), .v (.string r9.1.Text), .v (.int .i64 r9.1.Order.Id), .v (.int .i64 r9.1.Order.State), .v (.int .i64 r9.1.Order.Party.Size), .v (.int .i64 r9.1.Order.Party.Wheels), .v (.int .i64 r9.1.Order.Until), .v (.int .i64 r9.1.Order.First), .v (.int .i64 r9.1.Time)]) rfl rfl rfl rfl (.extract rfl rfl) ?_
  refine RunT.ot0 (x := .v (.int .i64 r9.2)) rfl rfl rfl rfl (.extract rfl rfl) ?_
  refine RunT.ot1 (x := .ptr 32 0) (p0 := (32, some (.box [.v (.int .i64 0), .v (.string (⟨#[]⟩ : ByteArray)), .v (.int .i64 0), .v (.int .i64 0), .v (.int .i64 0), .v (.int .i64 0), .v (.int .i64 0), .v (.int .i64 0), .v (.int .i64 0)]))) (n' := 40) rfl rfl rfl rfl (.allocX in51.zero rfl rfl) rfl ?_
  refine RunT.on1 (x := .junk) (p0 := (32, some (.box [.v (.int .i64 r9.1.Kind), .v (.string r9.1.Text), .v (.int .i64 r9.1.Order.Id), .v (.int .i64 r9.1.Order.State), .v (.int .i64 r9.1.Order.Party.Size), .v (.int .i64 r9.1.Order.Party.Wheels), .v (.int .i64 r9.1.Order.Until), .v (.int .i64 r9.1.Order.First), .v (.int .i64 r9.1.Time)]))) (n' := 48) rfl rfl rfl (.storePX ty51 rfl rfl rfl rfl rfl rfl rfl) rfl ?_
  refine RunT.ot0 (x := .v (.int .i64 r9.2)) rfl rfl rfl rfl (.assignX rfl) ?_
  refine RunT.nil ?_
  refine T.seq ?_
  refine T.sub (sub_pick [1, 2, 3, 4, 5, 6, 7, 9, 11] [0, 16] (st' := ⟨[(1, .ptr 0 0), (2, .lst (List.map eU8 r1.1)), (3, .v (.int .i64 r1.2)), (4, .ptr 16 0), (5, .v (.int .i64 r3.2)), (6, .lst (List.map eU8 r5.1)), (7, .v (.int .i64 r5.2)), (9, .v (.int .i64 r7.2)), (11, .v (.int .i64 r9.2))], [(0, some (.box [.v (.int .i64 2), .v (.string (⟨#[]⟩ : ByteArray)), .v (.int .i64 258), .v (.int .i64 1), .v (.int .i64 2), .v (.int .i64 0), .v (.int .i64 5), .v (.int .i64 (-1)), .v (.int .i64 0)])), (16, some (.box [.v (.int .i64 r3.1.Kind), .v (.string r3.1.Text), .v (.int .i64 r3.1.Order.Id), .v (.int .i64 r3.1.Order.State), .v (.int .i64 r3.1.Order.Party.Size), .v (.int .i64 r3.1.Order.Party.Wheels), .v (.int .i64 r3.1.Order.Until), .v (.int .i64 r3.1.Order.First), .v (.int .i64 r3.1.Time)]))], 48, []⟩) rfl rfl rfl rfl rfl) ?_
  refine T.region ?_
  refine RunT.ot1 (x := .own 48 0 (([4, 0]).length)) (p0 := (48, some (.arr false 1 (List.map eU8 [4, 0])))) (n' := 56) rfl rfl rfl rfl (.bslicem (d := false) (l := [4, 0]) (f := eU8) sl35 rfl rfl rfl enc_U8 rfl) rfl ?_
  obtain ⟨r11, h12, H⟩ := bs H
  refine RunT.ot0 (x := .tup [.agg [.v (.int .i64 r11.1.Kind), .v (.string r11.1.Text), .v (.int .i64 r11.1.Order.Id), .v (.int .i64 r11.1.Order.State), .v (.int .i64 r11.1.Order.Party.Size), .v (.int .i64 r11.1.Order.Party.Wheels), .v (.int .i64 r11.1.Order.Until), .v (.int .i64 r11.1.Order.First), .v (.int .i64 r11.1.Time)], .v (.int .i64 r11.2)]) rfl rfl rfl rfl (.callp (record_Get_pc false k [4, 0] r11 h12) rfl ⟨(.one (.all rfl (List.length_map _).symm)), trivial⟩ rfl rfl rfl) ?_
  refine RunT.ot0 (x := .tup [.agg [.v (.int .i64 r11.1.Kind), .v (.string r11.1.Text), .v (.int .i64 r11.1.Order.Id), .v (.int .i64 r11.1.Order.State), .v (.int .i64 r11.1.Order.Party.Size), .v (.int .i64 r11.1.Order.Party.Wheels), .v (.int .i64 r11.1.Order.Until), .v (.int .i64 r11.1.Order.First), .v (.int .i64 r11.1.Time)], .v (.int .i64 r11.2)]) rfl rfl rfl rfl (.moveX rfl) ?_
  refine RunT.ot0 (x := .agg [.v (.int .i64 r11.1.Kind), .v (.string r11.1.Text), .v (.int .i64 r11.1.Order.Id), .v (.int .i64 r11.1.Order.State), .v (.int .i64 r11.1.Order.Party.Size), .v (.int .i64 r11.1.Order.Party.Wheels), .v (.int .i64 r11.1.Order.Until), .v (.int .i64 r11.1.Order.First), .v (.int .i64 r11.1.Time)]) rfl rfl rfl rfl (.extract rfl rfl) ?_
  refine RunT.ot0 (x := .v (.int .i64 r11.2)) rfl rfl rfl rfl (.extract rfl rfl) ?_
  refine RunT.ot1 (x := .ptr 56 0) (p0 := (56, some (.box [.v (.int .i64 0), .v (.string (⟨#[]⟩ : ByteArray)), .v (.int .i64 0), .v (.int .i64 0), .v (.int .i64 0), .v (.int .i64 0), .v (.int .i64 0), .v (.int .i64 0), .v (.int .i64 0)]))) (n' := 64) rfl rfl rfl rfl (.allocX in51.zero rfl rfl) rfl ?_
  refine RunT.on1 (x := .junk) (p0 := (56, some (.box [.v (.int .i64 r11.1.Kind), .v (.string r11.1.Text), .v (.int .i64 r11.1.Order.Id), .v (.int .i64 r11.1.Order.State), .v (.int .i64 r11.1.Order.Party.Size), .v (.int .i64 r11.1.Order.Party.Wheels), .v (.int .i64 r11.1.Order.Until), .v (.int .i64 r11.1.Order.First), .v (.int .i64 r11.1.Time)]))) (n' := 72) rfl rfl rfl (.storePX ty51 rfl rfl rfl rfl rfl rfl rfl) rfl ?_
  refine RunT.ot0 (x := .v (.int .i64 r11.2)) rfl rfl rfl rfl (.assignX rfl) ?_
  refine RunT.nil ?_
  refine T.seq ?_
  refine T.region ?_
  refine RunT.ot0 (x := .v (.int .i64 r1.2)) rfl rfl rfl rfl (.moveX rfl) ?_
  refine RunT.ot0 (x := .v (.bool (decide (r1.2 = 0)))) rfl rfl rfl rfl (.bin rfl rfl (fun w => b_eql w) rfl) ?_
  refine RunT.ot0 (x := .v (.bool (decide (r1.2 = 0)))) rfl rfl rfl rfl (.moveX rfl) ?_
  refine RunT.cases (t := 48) (c := decide (r1.2 = 0)) rfl (fun g13 => ?_) (fun g13 => ?_)
  · replace H := ct H g13
    refine RunT.gt0 (x := .lst (List.map eU8 r1.1)) rfl rfl rfl (bo g13) rfl rfl (.moveX rfl) ?_
    refine RunT.gt0 (x := .v (.int .i64 (r1.1.length : Int))) rfl rfl rfl (bo g13) rfl rfl (.lenLm Try.underlying35 rfl rfl) ?_
    refine RunT.gt0 (x := .v (.bool (decide ((r1.1.length : Int) = 20)))) rfl rfl rfl (bo g13) rfl rfl (.bin rfl rfl (fun w => b_eql w) rfl) ?_
    refine RunT.ot0 (x := .v (.bool (decide ((r1.1.length : Int) = 20)))) rfl rfl rfl rfl (.pickT (bo g13) rfl) ?_
    refine RunT.ot0 (x := .v (.bool (decide ((r1.1.length : Int) = 20)))) rfl rfl rfl rfl (.moveX rfl) ?_
    refine RunT.cases (t := 53) (c := decide ((r1.1.length : Int) = 20)) rfl (fun g14 => ?_) (fun g14 => ?_)
    · replace H := ct H g14
      refine RunT.gt0 (x := .lst (List.map eU8 r1.1)) rfl rfl rfl (bo g14) rfl rfl (.moveX rfl) ?_
      obtain ⟨y15, h16, H⟩ := bs H
      refine RunT.gt0 (x := .rptr [.v (.int .u8 y15)]) rfl rfl rfl (bo g14) rfl rfl (.idxLX h16 enc_U8 sl35 rfl rfl rfl) ?_
      refine RunT.gt0 (x := .v (.int .u8 y15)) rfl rfl rfl (bo g14) rfl rfl (.loadR ty5 rfl rfl) ?_
      refine RunT.gt0 (x := .v (.bool (decide (y15 = 2)))) rfl rfl rfl (bo g14) rfl rfl (.bin rfl rfl (fun w => b_eql w) rfl) ?_
      refine RunT.ot0 (x := .v (.bool (decide (y15 = 2)))) rfl rfl rfl rfl (.pickT (bo g14) rfl) ?_
      refine RunT.ot0 (x := .v (.bool (decide (y15 = 2)))) rfl rfl rfl rfl (.moveX rfl) ?_
      refine RunT.cases (t := 59) (c := decide (y15 = 2)) rfl (fun g17 => ?_) (fun g17 => ?_)
      · replace H := ct H g17
        refine RunT.gt0 (x := .lst (List.map eU8 r1.1)) rfl rfl rfl (bo g17) rfl rfl (.moveX rfl) ?_
        obtain ⟨y18, h19, H⟩ := bs H
        refine RunT.gt0 (x := .rptr [.v (.int .u8 y18)]) rfl rfl rfl (bo g17) rfl rfl (.idxLX h19 enc_U8 sl35 rfl rfl rfl) ?_
        refine RunT.gt0 (x := .v (.int .u8 y18)) rfl rfl rfl (bo g17) rfl rfl (.loadR ty5 rfl rfl) ?_
        refine RunT.gt0 (x := .v (.bool (decide (y18 = 2)))) rfl rfl rfl (bo g17) rfl rfl (.bin rfl rfl (fun w => b_eql w) rfl) ?_
        refine RunT.ot0 (x := .v (.bool (decide (y18 = 2)))) rfl rfl rfl rfl (.pickT (bo g17) rfl) ?_
        refine RunT.ot0 (x := .v (.bool (decide (y18 = 2)))) rfl rfl rfl rfl (.moveX rfl) ?_
        refine RunT.cases (t := 65) (c := decide (y18 = 2)) rfl (fun g20 => ?_) (fun g20 => ?_)
        · replace H := ct H g20
          refine RunT.gt0 (x := .lst (List.map eU8 r1.1)) rfl rfl rfl (bo g20) rfl rfl (.moveX rfl) ?_
          obtain ⟨y21, h22, H⟩ := bs H
          refine RunT.gt0 (x := .rptr [.v (.int .u8 y21)]) rfl rfl rfl (bo g20) rfl rfl (.idxLX h22 enc_U8 sl35 rfl rfl rfl) ?_
          refine RunT.gt0 (x := .v (.int .u8 y21)) rfl rfl rfl (bo g20) rfl rfl (.loadR ty5 rfl rfl) ?_
          refine RunT.gt0 (x := .v (.bool (decide (y21 = 1)))) rfl rfl rfl (bo g20) rfl rfl (.bin rfl rfl (fun w => b_eql w) rfl) ?_
          refine RunT.ot0 (x := .v (.bool (decide (y21 = 1)))) rfl rfl rfl rfl (.pickT (bo g20) rfl) ?_
          refine RunT.ot0 (x := .v (.bool (decide (y21 = 1)))) rfl rfl rfl rfl (.moveX rfl) ?_
          refine RunT.cases (t := 71) (c := decide (y21 = 1)) rfl (fun g23 => ?_) (fun g23 => ?_)
          · replace H := ct H g23
            refine RunT.gt0 (x := .lst (List.map eU8 r1.1)) rfl rfl rfl (bo g23) rfl rfl (.moveX rfl) ?_
            obtain ⟨y24, h25, H⟩ := bs H
            refine RunT.gt0 (x := .rptr [.v (.int .u8 y24)]) rfl rfl rfl (bo g23) rfl rfl (.idxLX h25 enc_U8 sl35 rfl rfl rfl) ?_
            refine RunT.gt0 (x := .v (.int .u8 y24)) rfl rfl rfl (bo g23) rfl rfl (.loadR ty5 rfl rfl) ?_
            refine RunT.gt0 (x := .v (.bool (decide (y24 = 0)))) rfl rfl rfl (bo g23) rfl rfl (.bin rfl rfl (fun w => b_eql w) rfl) ?_
            refine RunT.ot0 (x := .v (.bool (decide (y24 = 0)))) rfl rfl rfl rfl (.pickT (bo g23) rfl) ?_
            refine RunT.ot0 (x := .v (.bool (decide (y24 = 0)))) rfl rfl rfl rfl (.moveX rfl) ?_
            refine RunT.cases (t := 77) (c := decide (y24 = 0)) rfl (fun g26 => ?_) (fun g26 => ?_)
            · replace H := ct H g26
              refine RunT.gt0 (x := .v (.int .i64 r3.2)) rfl rfl rfl (bo g26) rfl rfl (.moveX rfl) ?_
              refine RunT.gt0 (x := .v (.bool (decide (r3.2 = 0)))) rfl rfl rfl (bo g26) rfl rfl (.bin rfl rfl (fun w => b_eql w) rfl) ?_
              refine RunT.ot0 (x := .v (.bool (decide (r3.2 = 0)))) rfl rfl rfl rfl (.pickT (bo g26) rfl) ?_
              refine RunT.ot0 (x := .v (.bool (decide (r3.2 = 0)))) rfl rfl rfl rfl (.moveX rfl) ?_
              refine RunT.cases (t := 81) (c := decide (r3.2 = 0)) rfl (fun g27 => ?_) (fun g27 => ?_)
              · replace H := ct H g27
                refine RunT.gt0 (x := .agg [.v (.int .i64 r3.1.Kind), .v (.string r3.1.Text), .v (.int .i64 r3.1.Order.Id), .v (.int .i64 r3.1.Order.State), .v (.int .i64 r3.1.Order.Party.Size), .v (.int .i64 r3.1.Order.Party.Wheels), .v (.int .i64 r3.1.Order.Until), .v (.int .i64 r3.1.Order.First), .v (.int .i64 r3.1.Time)]) rfl rfl rfl (bo g27) rfl rfl (.loadP ty51 rfl rfl rfl) ?_
                refine RunT.gt0 (x := .agg [.v (.int .i64 2), .v (.string (⟨#[]⟩ : ByteArray)), .v (.int .i64 258), .v (.int .i64 1), .v (.int .i64 2), .v (.int .i64 0), .v (.int .i64 5), .v (.int .i64 (-1)), .v (.int .i64 0)]) rfl rfl rfl (bo g27) rfl rfl (.loadP ty51 rfl rfl rfl) ?_
                refine RunT.gt0 (x := .v (.bool (decide (r3.1 = Record.mk 2 (⟨#[]⟩ : ByteArray) (Order.mk 258 1 (Party.mk 2 0) 5 (-1)) 0)))) rfl rfl rfl (bo g27) rfl rfl (.binA (us := us_Record (r3.1)) (vs := us_Record (Record.mk 2 (⟨#[]⟩ : ByteArray) (Order.mk 258 1 (Party.mk 2 0) 5 (-1)) 0)) rfl rfl (fun w => eq_Record (r3.1) (Record.mk 2 (⟨#[]⟩ : ByteArray) (Order.mk 258 1 (Party.mk 2 0) 5 (-1)) 0) w) rfl) ?_
                refine RunT.ot0 (x := .v (.bool (decide (r3.1 = Record.mk 2 (⟨#[]⟩ : ByteArray) (Order.mk 258 1 (Party.mk 2 0) 5 (-1)) 0)))) rfl rfl rfl rfl (.pickT (bo g27) rfl) ?_
                refine RunT.ot0 (x := .v (.bool (decide (r3.1 = Record.mk 2 (⟨#[]⟩ : ByteArray) (Order.mk 258 1 (Party.mk 2 0) 5 (-1)) 0)))) rfl rfl rfl rfl (.moveX rfl) ?_
                refine RunT.cases (t := 86) (c := decide (r3.1 = Record.mk 2 (⟨#[]⟩ : ByteArray) (Order.mk 258 1 (Party.mk 2 0) 5 (-1)) 0)) rfl (fun g28 => ?_) (fun g28 => ?_)
                · replace H := ct H g28
                  refine RunT.gt0 (x := .v (.int .i64 r5.2)) rfl rfl rfl (bo g28) rfl rfl (.moveX rfl) ?_
                  refine RunT.gt0 (x := .v (.bool (decide (r5.2 = 0)))) rfl rfl rfl (bo g28) rfl rfl (.bin rfl rfl (fun w => b_eql w) rfl) ?_
                  refine RunT.ot0 (x := .v (.bool (decide (r5.2 = 0)))) rfl rfl rfl rfl (.pickT (bo g28) rfl) ?_
                  refine RunT.ot0 (x := .v (.bool (decide (r5.2 = 0)))) rfl rfl rfl rfl (.moveX rfl) ?_
                  refine RunT.cases (t := 90) (c := decide (r5.2 = 0)) rfl (fun g29 => ?_) (fun g29 => ?_)
                  · replace H := ct H g29
                    refine RunT.gt0 (x := .lst (List.map eU8 r5.1)) rfl rfl rfl (bo g29) rfl rfl (.moveX rfl) ?_
                    refine RunT.gt0 (x := .v (.string (strOf r5.1))) rfl rfl rfl (bo g29) rfl rfl (.toStrm (d := false) (m := r5.1) (f := eU8) Try.underlying35 Try.underlying5 Try.underlying9 rfl (.lstm Try.underlying35 enc_U8) (fun _ => rfl)) ?_
                    refine RunT.gt0 (x := .v (.bool ((strOf r5.1) == (⟨#[4]⟩ : ByteArray)))) rfl rfl rfl (bo g29) rfl rfl (.bin rfl rfl (fun w => eqStr w) rfl) ?_
                    refine RunT.ot0 (x := .v (.bool ((strOf r5.1) == (⟨#[4]⟩ : ByteArray)))) rfl rfl rfl rfl (.pickT (bo g29) rfl) ?_
                    refine RunT.ot0 (x := .v (.bool ((strOf r5.1) == (⟨#[4]⟩ : ByteArray)))) rfl rfl rfl rfl (.moveX rfl) ?_
                    refine RunT.cases (t := 95) (c := (strOf r5.1) == (⟨#[4]⟩ : ByteArray)) rfl (fun g30 => ?_) (fun g30 => ?_)
                    · replace H := ct H g30
                      refine RunT.gt0 (x := .v (.int .i64 r7.2)) rfl rfl rfl (bo g30) rfl rfl (.moveX rfl) ?_
                      refine RunT.gt0 (x := .v (.bool (decide (r7.2 = 1)))) rfl rfl rfl (bo g30) rfl rfl (.bin rfl rfl (fun w => b_eql w) rfl) ?_
                      refine RunT.ot0 (x := .v (.bool (decide (r7.2 = 1)))) rfl rfl rfl rfl (.pickT (bo g30) rfl) ?_
                      refine RunT.ot0 (x := .v (.bool (decide (r7.2 = 1)))) rfl rfl rfl rfl (.moveX rfl) ?_
                      refine RunT.cases (t := 99) (c := decide (r7.2 = 1)) rfl (fun g31 => ?_) (fun g31 => ?_)
                      · replace H := ct H g31
                        refine RunT.gt0 (x := .v (.int .i64 r9.2)) rfl rfl rfl (bo g31) rfl rfl (.moveX rfl) ?_
                        refine RunT.gt0 (x := .v (.bool (decide (r9.2 = 10)))) rfl rfl rfl (bo g31) rfl rfl (.bin rfl rfl (fun w => b_eql w) rfl) ?_
                        refine RunT.ot0 (x := .v (.bool (decide (r9.2 = 10)))) rfl rfl rfl rfl (.pickT (bo g31) rfl) ?_
                        refine RunT.ot0 (x := .v (.bool (decide (r9.2 = 10)))) rfl rfl rfl rfl (.moveX rfl) ?_
                        refine RunT.cases (t := 103) (c := decide (r9.2 = 10)) rfl (fun g32 => ?_) (fun g32 => ?_)
                        · replace H := ct H g32
                          refine RunT.gt0 (x := .v (.int .i64 r11.2)) rfl rfl rfl (bo g32) rfl rfl (.moveX rfl) ?_
                          refine RunT.gt0 (x := .v (.bool (decide (r11.2 = 10)))) rfl rfl rfl (bo g32) rfl rfl (.bin rfl rfl (fun w => b_eql w) rfl) ?_
                          refine RunT.ot0 (x := .v (.bool (decide (r11.2 = 10)))) rfl rfl rfl rfl (.pickT (bo g32) rfl) ?_
                          refine RunT.ot0 (x := .v (.bool (decide (r11.2 = 10)))) rfl rfl rfl rfl (.moveX rfl) ?_
                          refine RunT.cases (t := 107) (c := decide (r11.2 = 10)) rfl (fun g33 => ?_) (fun g33 => ?_)
                          · replace H := ct H g33
                            refine RunT.gt0 (x := .agg [.v (.int .i64 2), .v (.string (⟨#[]⟩ : ByteArray)), .v (.int .i64 258), .v (.int .i64 1), .v (.int .i64 2), .v (.int .i64 0), .v (.int .i64 5), .v (.int .i64 (-1)), .v (.int .i64 0)]) rfl rfl rfl (bo g33) rfl rfl (.loadP ty51 rfl rfl rfl) ?_
                            obtain ⟨r34, h35, H⟩ := bs H
                            refine RunT.gt0 (x := .v (.bool r34)) rfl rfl rfl (bo g33) rfl rfl (.callp (record_May_pc false k (Record.mk 2 (⟨#[]⟩ : ByteArray) (Order.mk 258 1 (Party.mk 2 0) 5 (-1)) 0) r34 h35) rfl ⟨(.agg' ⟨.v, .v, .v, .v, .v, .v, .v, .v, .v, trivial⟩), trivial⟩ rfl rfl rfl) ?_
                            refine RunT.ot0 (x := .v (.bool r34)) rfl rfl rfl rfl (.pickT (bo g33) rfl) ?_
                            refine RunT.ot0 (x := .v (.bool r34)) rfl rfl rfl rfl (.moveX rfl) ?_
                            refine RunT.cases (t := 111) (c := r34) rfl (fun g36 => ?_) (fun g36 => ?_)
                            · replace H := ct H g36
                              refine RunT.gt0 (x := .agg [.v (.int .i64 3), .v (.string (⟨#[]⟩ : ByteArray)), .v (.int .i64 0), .v (.int .i64 0), .v (.int .i64 0), .v (.int .i64 0), .v (.int .i64 0), .v (.int .i64 0), .v (.int .i64 (-1))]) rfl rfl rfl (bo g36) rfl rfl (.bu bu51 rfl) ?_
                              obtain ⟨r37, h38, H⟩ := bs H
                              refine RunT.gt0 (x := .v (.bool r37)) rfl rfl rfl (bo g36) rfl rfl (.callp (record_May_pc false k (Record.mk 3 (⟨#[]⟩ : ByteArray) (Order.mk 0 0 (Party.mk 0 0) 0 0) (-1)) r37 h38) rfl ⟨(.agg' ⟨.v, .v, .v, .v, .v, .v, .v, .v, .v, trivial⟩), trivial⟩ rfl rfl rfl) ?_
                              refine RunT.gt0 (x := .v (.bool (!r37))) rfl rfl rfl (bo g36) rfl rfl (.un rfl (fun w => u_not w) rfl) ?_
                              refine RunT.ot0 (x := .v (.bool (!r37))) rfl rfl rfl rfl (.pickT (bo g36) rfl) ?_
                              refine RunT.ot0 (x := .v (.bool (!r37))) rfl rfl rfl rfl (.moveX rfl) ?_
                              refine RunT.cases (t := 116) (c := !r37) rfl (fun g39 => ?_) (fun g39 => ?_)
                              · replace H := ct H g39
                                refine RunT.gt0 (x := .agg [.v (.int .i64 2), .v (.string (⟨#[]⟩ : ByteArray)), .v (.int .i64 258), .v (.int .i64 1), .v (.int .i64 2), .v (.int .i64 0), .v (.int .i64 5), .v (.int .i64 (-1)), .v (.int .i64 0)]) rfl rfl rfl (bo g39) rfl rfl (.loadP ty51 rfl rfl rfl) ?_
                                refine RunT.gt0 (x := .agg [.v (.int .i64 r3.1.Kind), .v (.string r3.1.Text), .v (.int .i64 r3.1.Order.Id), .v (.int .i64 r3.1.Order.State), .v (.int .i64 r3.1.Order.Party.Size), .v (.int .i64 r3.1.Order.Party.Wheels), .v (.int .i64 r3.1.Order.Until), .v (.int .i64 r3.1.Order.First), .v (.int .i64 r3.1.Time)]) rfl rfl rfl (bo g39) rfl rfl (.loadP ty51 rfl rfl rfl) ?_
                                obtain ⟨r40, h41, H⟩ := bs H
                                refine RunT.gt0 (x := .v (.bool r40)) rfl rfl rfl (bo g39) rfl rfl (.callp (record_Same_pc false k (Record.mk 2 (⟨#[]⟩ : ByteArray) (Order.mk 258 1 (Party.mk 2 0) 5 (-1)) 0) r3.1 r40 h41) rfl ⟨(.agg' ⟨.v, .v, .v, .v, .v, .v, .v, .v, .v, trivial⟩), (.agg' ⟨.v, .v, .v, .v, .v, .v, .v, .v, .v, trivial⟩), trivial⟩ rfl rfl rfl) ?_
                                refine RunT.ot0 (x := .v (.bool r40)) rfl rfl rfl rfl (.pickT (bo g39) rfl) ?_
                                refine RunT.ot0 (x := .v (.bool r40)) rfl rfl rfl rfl (.moveX rfl) ?_
                                refine RunT.cases (t := 121) (c := r40) rfl (fun g42 => ?_) (fun g42 => ?_)
                                · replace H := ct H g42
                                  refine RunT.gt0 (x := .agg [.v (.int .i64 2), .v (.string (⟨#[]⟩ : ByteArray)), .v (.int .i64 258), .v (.int .i64 1), .v (.int .i64 2), .v (.int .i64 0), .v (.int .i64 5), .v (.int .i64 (-1)), .v (.int .i64 0)]) rfl rfl rfl (bo g42) rfl rfl (.loadP ty51 rfl rfl rfl) ?_
                                  refine RunT.gt0 (x := .agg [.v (.int .i64 0), .v (.string (⟨#[]⟩ : ByteArray)), .v (.int .i64 0), .v (.int .i64 0), .v (.int .i64 0), .v (.int .i64 0), .v (.int .i64 0), .v (.int .i64 0), .v (.int .i64 0)]) rfl rfl rfl (bo g42) rfl rfl (.bu bu51 rfl) ?_
                                  obtain ⟨r43, h44, H⟩ := bs H
                                  refine RunT.gt0 (x := .v (.bool r43)) rfl rfl rfl (bo g42) rfl rfl (.callp (record_Same_pc false k (Record.mk 2 (⟨#[]⟩ : ByteArray) (Order.mk 258 1 (Party.mk 2 0) 5 (-1)) 0) (Record.mk 0 (⟨#[]⟩ : ByteArray) (Order.mk 0 0 (Party.mk 0 0) 0 0) 0) r43 h44) rfl ⟨(.agg' ⟨.v, .v, .v, .v, .v, .v, .v, .v, .v, trivial⟩), (.agg' ⟨.v, .v, .v, .v, .v, .v, .v, .v, .v, trivial⟩), trivial⟩ rfl rfl rfl) ?_
                                  refine RunT.gt0 (x := .v (.bool (!r43))) rfl rfl rfl (bo g42) rfl rfl (.un rfl (fun w => u_not w) rfl) ?_
                                  refine RunT.ot0 (x := .v (.bool (!r43))) rfl rfl rfl rfl (.pickT (bo g42) rfl) ?_
                                  refine RunT.ot0 (x := .v (.bool (!r43))) rfl rfl rfl rfl (.assignX rfl) ?_
                                  refine RunT.nil ?_
                                  obtain rfl := si H
                                  refine T.sub (sub_to (st' := ⟨[(0, .v (.bool (!r43)))], [], 8, []⟩) [] (by decide) rfl rfl (⟨⟨_, rfl, .one .v⟩, trivial⟩) (trivial)) ?_
                                  refine T.ret ?_
                                  exact RetOk.same [.v (.bool (!r43))] ⟨rfl, trivial⟩ rfl rfl rfl
                                · replace H := cf H g42
                                  refine RunT.xn rfl rfl rfl (bo g42) rfl rfl ?_
                                  refine RunT.xn rfl rfl rfl (bo g42) rfl rfl ?_
                                  refine RunT.xn rfl rfl rfl (bo g42) rfl rfl ?_
                                  refine RunT.xn rfl rfl rfl (bo g42) rfl rfl ?_
                                  refine RunT.ot0 (x := .v (.bool false)) rfl rfl rfl rfl (.pickF (bo g42) rfl) ?_
                                  refine RunT.ot0 (x := .v (.bool false)) rfl rfl rfl rfl (.assignX rfl) ?_
                                  refine RunT.nil ?_
                                  obtain rfl := si H
                                  refine T.sub (sub_to (st' := ⟨[(0, .v (.bool false))], [], 8, []⟩) [] (by decide) rfl rfl (⟨⟨_, rfl, .one .v⟩, trivial⟩) (trivial)) ?_
                                  refine T.ret ?_
                                  exact RetOk.same [.v (.bool false)] ⟨rfl, trivial⟩ rfl rfl rfl
                              · replace H := cf H g39
                                refine RunT.xn rfl rfl rfl (bo g39) rfl rfl ?_
                                refine RunT.xn rfl rfl rfl (bo g39) rfl rfl ?_
                                refine RunT.xn rfl rfl rfl (bo g39) rfl rfl ?_
                                refine RunT.ot0 (x := .v (.bool false)) rfl rfl rfl rfl (.pickF (bo g39) rfl) ?_
                                refine RunT.ot0 (x := .v (.bool false)) rfl rfl rfl rfl (.moveX rfl) ?_
                                refine RunT.xn rfl rfl rfl rfl rfl rfl ?_
                                refine RunT.xn rfl rfl rfl rfl rfl rfl ?_
                                refine RunT.xn rfl rfl rfl rfl rfl rfl ?_
                                refine RunT.xn rfl rfl rfl rfl rfl rfl ?_
                                refine RunT.ot0 (x := .v (.bool false)) rfl rfl rfl rfl (.pickF rfl rfl) ?_
                                refine RunT.ot0 (x := .v (.bool false)) rfl rfl rfl rfl (.assignX rfl) ?_
                                refine RunT.nil ?_
                                obtain rfl := si H
                                refine T.sub (sub_to (st' := ⟨[(0, .v (.bool false))], [], 8, []⟩) [] (by decide) rfl rfl (⟨⟨_, rfl, .one .v⟩, trivial⟩) (trivial)) ?_
                                refine T.ret ?_
                                exact RetOk.same [.v (.bool false)] ⟨rfl, trivial⟩ rfl rfl rfl
                            · replace H := cf H g36
                              refine RunT.xn rfl rfl rfl (bo g36) rfl rfl ?_
                              refine RunT.xn rfl rfl rfl (bo g36) rfl rfl ?_
                              refine RunT.xn rfl rfl rfl (bo g36) rfl rfl ?_
                              refine RunT.ot0 (x := .v (.bool false)) rfl rfl rfl rfl (.pickF (bo g36) rfl) ?_
                              refine RunT.ot0 (x := .v (.bool false)) rfl rfl rfl rfl (.moveX rfl) ?_
                              refine RunT.xn rfl rfl rfl rfl rfl rfl ?_
                              refine RunT.xn rfl rfl rfl rfl rfl rfl ?_
                              refine RunT.xn rfl rfl rfl rfl rfl rfl ?_
                              refine RunT.ot0 (x := .v (.bool false)) rfl rfl rfl rfl (.pickF rfl rfl) ?_
                              refine RunT.ot0 (x := .v (.bool false)) rfl rfl rfl rfl (.moveX rfl) ?_
                              refine RunT.xn rfl rfl rfl rfl rfl rfl ?_
                              refine RunT.xn rfl rfl rfl rfl rfl rfl ?_
                              refine RunT.xn rfl rfl rfl rfl rfl rfl ?_
                              refine RunT.xn rfl rfl rfl rfl rfl rfl ?_
                              refine RunT.ot0 (x := .v (.bool false)) rfl rfl rfl rfl (.pickF rfl rfl) ?_
                              refine RunT.ot0 (x := .v (.bool false)) rfl rfl rfl rfl (.assignX rfl) ?_
                              refine RunT.nil ?_
                              obtain rfl := si H
                              refine T.sub (sub_to (st' := ⟨[(0, .v (.bool false))], [], 8, []⟩) [] (by decide) rfl rfl (⟨⟨_, rfl, .one .v⟩, trivial⟩) (trivial)) ?_
                              refine T.ret ?_
                              exact RetOk.same [.v (.bool false)] ⟨rfl, trivial⟩ rfl rfl rfl
                          · replace H := cf H g33
                            refine RunT.xn rfl rfl rfl (bo g33) rfl rfl ?_
                            refine RunT.xn rfl rfl rfl (bo g33) rfl rfl ?_
                            refine RunT.ot0 (x := .v (.bool false)) rfl rfl rfl rfl (.pickF (bo g33) rfl) ?_
                            refine RunT.ot0 (x := .v (.bool false)) rfl rfl rfl rfl (.moveX rfl) ?_
                            refine RunT.xn rfl rfl rfl rfl rfl rfl ?_
                            refine RunT.xn rfl rfl rfl rfl rfl rfl ?_
                            refine RunT.xn rfl rfl rfl rfl rfl rfl ?_
                            refine RunT.ot0 (x := .v (.bool false)) rfl rfl rfl rfl (.pickF rfl rfl) ?_
                            refine RunT.ot0 (x := .v (.bool false)) rfl rfl rfl rfl (.moveX rfl) ?_
                            refine RunT.xn rfl rfl rfl rfl rfl rfl ?_
                            refine RunT.xn rfl rfl rfl rfl rfl rfl ?_
                            refine RunT.xn rfl rfl rfl rfl rfl rfl ?_
                            refine RunT.ot0 (x := .v (.bool false)) rfl rfl rfl rfl (.pickF rfl rfl) ?_
                            refine RunT.ot0 (x := .v (.bool false)) rfl rfl rfl rfl (.moveX rfl) ?_
                            refine RunT.xn rfl rfl rfl rfl rfl rfl ?_
                            refine RunT.xn rfl rfl rfl rfl rfl rfl ?_
                            refine RunT.xn rfl rfl rfl rfl rfl rfl ?_
                            refine RunT.xn rfl rfl rfl rfl rfl rfl ?_
                            refine RunT.ot0 (x := .v (.bool false)) rfl rfl rfl rfl (.pickF rfl rfl) ?_
                            refine RunT.ot0 (x := .v (.bool false)) rfl rfl rfl rfl (.assignX rfl) ?_
                            refine RunT.nil ?_
                            obtain rfl := si H
                            refine T.sub (sub_to (st' := ⟨[(0, .v (.bool false))], [], 8, []⟩) [] (by decide) rfl rfl (⟨⟨_, rfl, .one .v⟩, trivial⟩) (trivial)) ?_
                            refine T.ret ?_
                            exact RetOk.same [.v (.bool false)] ⟨rfl, trivial⟩ rfl rfl rfl
                        · replace H := cf H g32
                          refine RunT.xn rfl rfl rfl (bo g32) rfl rfl ?_
                          refine RunT.xn rfl rfl rfl (bo g32) rfl rfl ?_
                          refine RunT.ot0 (x := .v (.bool false)) rfl rfl rfl rfl (.pickF (bo g32) rfl) ?_
                          refine RunT.ot0 (x := .v (.bool false)) rfl rfl rfl rfl (.moveX rfl) ?_
                          refine RunT.xn rfl rfl rfl rfl rfl rfl ?_
                          refine RunT.xn rfl rfl rfl rfl rfl rfl ?_
                          refine RunT.ot0 (x := .v (.bool false)) rfl rfl rfl rfl (.pickF rfl rfl) ?_
                          refine RunT.ot0 (x := .v (.bool false)) rfl rfl rfl rfl (.moveX rfl) ?_
                          refine RunT.xn rfl rfl rfl rfl rfl rfl ?_
                          refine RunT.xn rfl rfl rfl rfl rfl rfl ?_
                          refine RunT.xn rfl rfl rfl rfl rfl rfl ?_
                          refine RunT.ot0 (x := .v (.bool false)) rfl rfl rfl rfl (.pickF rfl rfl) ?_
                          refine RunT.ot0 (x := .v (.bool false)) rfl rfl rfl rfl (.moveX rfl) ?_
                          refine RunT.xn rfl rfl rfl rfl rfl rfl ?_
                          refine RunT.xn rfl rfl rfl rfl rfl rfl ?_
                          refine RunT.xn rfl rfl rfl rfl rfl rfl ?_
                          refine RunT.ot0 (x := .v (.bool false)) rfl rfl rfl rfl (.pickF rfl rfl) ?_
                          refine RunT.ot0 (x := .v (.bool false)) rfl rfl rfl rfl (.moveX rfl) ?_
                          refine RunT.xn rfl rfl rfl rfl rfl rfl ?_
                          refine RunT.xn rfl rfl rfl rfl rfl rfl ?_
                          refine RunT.xn rfl rfl rfl rfl rfl rfl ?_
                          refine RunT.xn rfl rfl rfl rfl rfl rfl ?_
                          refine RunT.ot0 (x := .v (.bool false)) rfl rfl rfl rfl (.pickF rfl rfl) ?_
                          refine RunT.ot0 (x := .v (.bool false)) rfl rfl rfl rfl (.assignX rfl) ?_
                          refine RunT.nil ?_
                          obtain rfl := si H
                          refine T.sub (sub_to (st' := ⟨[(0, .v (.bool false))], [], 8, []⟩) [] (by decide) rfl rfl (⟨⟨_, rfl, .one .v⟩, trivial⟩) (trivial)) ?_
                          refine T.ret ?_
                          exact RetOk.same [.v (.bool false)] ⟨rfl, trivial⟩ rfl rfl rfl
                      · replace H := cf H g31
                        refine RunT.xn rfl rfl rfl (bo g31) rfl rfl ?_
                        refine RunT.xn rfl rfl rfl (bo g31) rfl rfl ?_
                        refine RunT.ot0 (x := .v (.bool false)) rfl rfl rfl rfl (.pickF (bo g31) rfl) ?_
                        refine RunT.ot0 (x := .v (.bool false)) rfl rfl rfl rfl (.moveX rfl) ?_
                        refine RunT.xn rfl rfl rfl rfl rfl rfl ?_
                        refine RunT.xn rfl rfl rfl rfl rfl rfl ?_
                        refine RunT.ot0 (x := .v (.bool false)) rfl rfl rfl rfl (.pickF rfl rfl) ?_
                        refine RunT.ot0 (x := .v (.bool false)) rfl rfl rfl rfl (.moveX rfl) ?_
                        refine RunT.xn rfl rfl rfl rfl rfl rfl ?_
                        refine RunT.xn rfl rfl rfl rfl rfl rfl ?_
                        refine RunT.ot0 (x := .v (.bool false)) rfl rfl rfl rfl (.pickF rfl rfl) ?_
                        refine RunT.ot0 (x := .v (.bool false)) rfl rfl rfl rfl (.moveX rfl) ?_
                        refine RunT.xn rfl rfl rfl rfl rfl rfl ?_
                        refine RunT.xn rfl rfl rfl rfl rfl rfl ?_
                        refine RunT.xn rfl rfl rfl rfl rfl rfl ?_
                        refine RunT.ot0 (x := .v (.bool false)) rfl rfl rfl rfl (.pickF rfl rfl) ?_
                        refine RunT.ot0 (x := .v (.bool false)) rfl rfl rfl rfl (.moveX rfl) ?_
                        refine RunT.xn rfl rfl rfl rfl rfl rfl ?_
                        refine RunT.xn rfl rfl rfl rfl rfl rfl ?_
                        refine RunT.xn rfl rfl rfl rfl rfl rfl ?_
                        refine RunT.ot0 (x := .v (.bool false)) rfl rfl rfl rfl (.pickF rfl rfl) ?_
                        refine RunT.ot0 (x := .v (.bool false)) rfl rfl rfl rfl (.moveX rfl) ?_
                        refine RunT.xn rfl rfl rfl rfl rfl rfl ?_
                        refine RunT.xn rfl rfl rfl rfl rfl rfl ?_
                        refine RunT.xn rfl rfl rfl rfl rfl rfl ?_
                        refine RunT.xn rfl rfl rfl rfl rfl rfl ?_
                        refine RunT.ot0 (x := .v (.bool false)) rfl rfl rfl rfl (.pickF rfl rfl) ?_
                        refine RunT.ot0 (x := .v (.bool false)) rfl rfl rfl rfl (.assignX rfl) ?_
                        refine RunT.nil ?_
                        obtain rfl := si H
                        refine T.sub (sub_to (st' := ⟨[(0, .v (.bool false))], [], 8, []⟩) [] (by decide) rfl rfl (⟨⟨_, rfl, .one .v⟩, trivial⟩) (trivial)) ?_
                        refine T.ret ?_
                        exact RetOk.same [.v (.bool false)] ⟨rfl, trivial⟩ rfl rfl rfl
                    · replace H := cf H g30
                      refine RunT.xn rfl rfl rfl (bo g30) rfl rfl ?_
                      refine RunT.xn rfl rfl rfl (bo g30) rfl rfl ?_
                      refine RunT.ot0 (x := .v (.bool false)) rfl rfl rfl rfl (.pickF (bo g30) rfl) ?_
                      refine RunT.ot0 (x := .v (.bool false)) rfl rfl rfl rfl (.moveX rfl) ?_
                      refine RunT.xn rfl rfl rfl rfl rfl rfl ?_
                      refine RunT.xn rfl rfl rfl rfl rfl rfl ?_
                      refine RunT.ot0 (x := .v (.bool false)) rfl rfl rfl rfl (.pickF rfl rfl) ?_
                      refine RunT.ot0 (x := .v (.bool false)) rfl rfl rfl rfl (.moveX rfl) ?_
                      refine RunT.xn rfl rfl rfl rfl rfl rfl ?_
                      refine RunT.xn rfl rfl rfl rfl rfl rfl ?_
                      refine RunT.ot0 (x := .v (.bool false)) rfl rfl rfl rfl (.pickF rfl rfl) ?_
                      refine RunT.ot0 (x := .v (.bool false)) rfl rfl rfl rfl (.moveX rfl) ?_
                      refine RunT.xn rfl rfl rfl rfl rfl rfl ?_
                      refine RunT.xn rfl rfl rfl rfl rfl rfl ?_
                      refine RunT.ot0 (x := .v (.bool false)) rfl rfl rfl rfl (.pickF rfl rfl) ?_
                      refine RunT.ot0 (x := .v (.bool false)) rfl rfl rfl rfl (.moveX rfl) ?_
                      refine RunT.xn rfl rfl rfl rfl rfl rfl ?_
                      refine RunT.xn rfl rfl rfl rfl rfl rfl ?_
                      refine RunT.xn rfl rfl rfl rfl rfl rfl ?_
                      refine RunT.ot0 (x := .v (.bool false)) rfl rfl rfl rfl (.pickF rfl rfl) ?_
                      refine RunT.ot0 (x := .v (.bool false)) rfl rfl rfl rfl (.moveX rfl) ?_
                      refine RunT.xn rfl rfl rfl rfl rfl rfl ?_
                      refine RunT.xn rfl rfl rfl rfl rfl rfl ?_
                      refine RunT.xn rfl rfl rfl rfl rfl rfl ?_
                      refine RunT.ot0 (x := .v (.bool false)) rfl rfl rfl rfl (.pickF rfl rfl) ?_
                      refine RunT.ot0 (x := .v (.bool false)) rfl rfl rfl rfl (.moveX rfl) ?_
                      refine RunT.xn rfl rfl rfl rfl rfl rfl ?_
                      refine RunT.xn rfl rfl rfl rfl rfl rfl ?_
                      refine RunT.xn rfl rfl rfl rfl rfl rfl ?_
                      refine RunT.xn rfl rfl rfl rfl rfl rfl ?_
                      refine RunT.ot0 (x := .v (.bool false)) rfl rfl rfl rfl (.pickF rfl rfl) ?_
                      refine RunT.ot0 (x := .v (.bool false)) rfl rfl rfl rfl (.assignX rfl) ?_
                      refine RunT.nil ?_
                      obtain rfl := si H
                      refine T.sub (sub_to (st' := ⟨[(0, .v (.bool false))], [], 8, []⟩) [] (by decide) rfl rfl (⟨⟨_, rfl, .one .v⟩, trivial⟩) (trivial)) ?_
                      refine T.ret ?_
                      exact RetOk.same [.v (.bool false)] ⟨rfl, trivial⟩ rfl rfl rfl
                  · replace H := cf H g29
                    refine RunT.xn rfl rfl rfl (bo g29) rfl rfl ?_
                    refine RunT.xn rfl rfl rfl (bo g29) rfl rfl ?_
                    refine RunT.xn rfl rfl rfl (bo g29) rfl rfl ?_
                    refine RunT.ot0 (x := .v (.bool false)) rfl rfl rfl rfl (.pickF (bo g29) rfl) ?_
                    refine RunT.ot0 (x := .v (.bool false)) rfl rfl rfl rfl (.moveX rfl) ?_
                    refine RunT.xn rfl rfl rfl rfl rfl rfl ?_
                    refine RunT.xn rfl rfl rfl rfl rfl rfl ?_
                    refine RunT.ot0 (x := .v (.bool false)) rfl rfl rfl rfl (.pickF rfl rfl) ?_
                    refine RunT.ot0 (x := .v (.bool false)) rfl rfl rfl rfl (.moveX rfl) ?_
                    refine RunT.xn rfl rfl rfl rfl rfl rfl ?_
                    refine RunT.xn rfl rfl rfl rfl rfl rfl ?_
                    refine RunT.ot0 (x := .v (.bool false)) rfl rfl rfl rfl (.pickF rfl rfl) ?_
                    refine RunT.ot0 (x := .v (.bool false)) rfl rfl rfl rfl (.moveX rfl) ?_
                    refine RunT.xn rfl rfl rfl rfl rfl rfl ?_
                    refine RunT.xn rfl rfl rfl rfl rfl rfl ?_
                    refine RunT.ot0 (x := .v (.bool false)) rfl rfl rfl rfl (.pickF rfl rfl) ?_
                    refine RunT.ot0 (x := .v (.bool false)) rfl rfl rfl rfl (.moveX rfl) ?_
                    refine RunT.xn rfl rfl rfl rfl rfl rfl ?_
                    refine RunT.xn rfl rfl rfl rfl rfl rfl ?_
                    refine RunT.ot0 (x := .v (.bool false)) rfl rfl rfl rfl (.pickF rfl rfl) ?_
                    refine RunT.ot0 (x := .v (.bool false)) rfl rfl rfl rfl (.moveX rfl) ?_
                    refine RunT.xn rfl rfl rfl rfl rfl rfl ?_
                    refine RunT.xn rfl rfl rfl rfl rfl rfl ?_
                    refine RunT.xn rfl rfl rfl rfl rfl rfl ?_
                    refine RunT.ot0 (x := .v (.bool false)) rfl rfl rfl rfl (.pickF rfl rfl) ?_
                    refine RunT.ot0 (x := .v (.bool false)) rfl rfl rfl rfl (.moveX rfl) ?_
                    refine RunT.xn rfl rfl rfl rfl rfl rfl ?_
                    refine RunT.xn rfl rfl rfl rfl rfl rfl ?_
                    refine RunT.xn rfl rfl rfl rfl rfl rfl ?_
                    refine RunT.ot0 (x := .v (.bool false)) rfl rfl rfl rfl (.pickF rfl rfl) ?_
                    refine RunT.ot0 (x := .v (.bool false)) rfl rfl rfl rfl (.moveX rfl) ?_
                    refine RunT.xn rfl rfl rfl rfl rfl rfl ?_
                    refine RunT.xn rfl rfl rfl rfl rfl rfl ?_
                    refine RunT.xn rfl rfl rfl rfl rfl rfl ?_
                    refine RunT.xn rfl rfl rfl rfl rfl rfl ?_
                    refine RunT.ot0 (x := .v (.bool false)) rfl rfl rfl rfl (.pickF rfl rfl) ?_
                    refine RunT.ot0 (x := .v (.bool false)) rfl rfl rfl rfl (.assignX rfl) ?_
                    refine RunT.nil ?_
                    obtain rfl := si H
                    refine T.sub (sub_to (st' := ⟨[(0, .v (.bool false))], [], 8, []⟩) [] (by decide) rfl rfl (⟨⟨_, rfl, .one .v⟩, trivial⟩) (trivial)) ?_
                    refine T.ret ?_
                    exact RetOk.same [.v (.bool false)] ⟨rfl, trivial⟩ rfl rfl rfl
                · replace H := cf H g28
                  refine RunT.xn rfl rfl rfl (bo g28) rfl rfl ?_
                  refine RunT.xn rfl rfl rfl (bo g28) rfl rfl ?_
                  refine RunT.ot0 (x := .v (.bool false)) rfl rfl rfl rfl (.pickF (bo g28) rfl) ?_
                  refine RunT.ot0 (x := .v (.bool false)) rfl rfl rfl rfl (.moveX rfl) ?_
                  refine RunT.xn rfl rfl rfl rfl rfl rfl ?_
                  refine RunT.xn rfl rfl rfl rfl rfl rfl ?_
                  refine RunT.xn rfl rfl rfl rfl rfl rfl ?_
                  refine RunT.ot0 (x := .v (.bool false)) rfl rfl rfl rfl (.pickF rfl rfl) ?_
                  refine RunT.ot0 (x := .v (.bool false)) rfl rfl rfl rfl (.moveX rfl) ?_
                  refine RunT.xn rfl rfl rfl rfl rfl rfl ?_
                  refine RunT.xn rfl rfl rfl rfl rfl rfl ?_
                  refine RunT.ot0 (x := .v (.bool false)) rfl rfl rfl rfl (.pickF rfl rfl) ?_
                  refine RunT.ot0 (x := .v (.bool false)) rfl rfl rfl rfl (.moveX rfl) ?_
                  refine RunT.xn rfl rfl rfl rfl rfl rfl ?_
                  refine RunT.xn rfl rfl rfl rfl rfl rfl ?_
                  refine RunT.ot0 (x := .v (.bool false)) rfl rfl rfl rfl (.pickF rfl rfl) ?_
                  refine RunT.ot0 (x := .v (.bool false)) rfl rfl rfl rfl (.moveX rfl) ?_
                  refine RunT.xn rfl rfl rfl rfl rfl rfl ?_
                  refine RunT.xn rfl rfl rfl rfl rfl rfl ?_
                  refine RunT.ot0 (x := .v (.bool false)) rfl rfl rfl rfl (.pickF rfl rfl) ?_
                  refine RunT.ot0 (x := .v (.bool false)) rfl rfl rfl rfl (.moveX rfl) ?_
                  refine RunT.xn rfl rfl rfl rfl rfl rfl ?_
                  refine RunT.xn rfl rfl rfl rfl rfl rfl ?_
                  refine RunT.ot0 (x := .v (.bool false)) rfl rfl rfl rfl (.pickF rfl rfl) ?_
                  refine RunT.ot0 (x := .v (.bool false)) rfl rfl rfl rfl (.moveX rfl) ?_
                  refine RunT.xn rfl rfl rfl rfl rfl rfl ?_
                  refine RunT.xn rfl rfl rfl rfl rfl rfl ?_
                  refine RunT.xn rfl rfl rfl rfl rfl rfl ?_
                  refine RunT.ot0 (x := .v (.bool false)) rfl rfl rfl rfl (.pickF rfl rfl) ?_
                  refine RunT.ot0 (x := .v (.bool false)) rfl rfl rfl rfl (.moveX rfl) ?_
                  refine RunT.xn rfl rfl rfl rfl rfl rfl ?_
                  refine RunT.xn rfl rfl rfl rfl rfl rfl ?_
                  refine RunT.xn rfl rfl rfl rfl rfl rfl ?_
                  refine RunT.ot0 (x := .v (.bool false)) rfl rfl rfl rfl (.pickF rfl rfl) ?_
                  refine RunT.ot0 (x := .v (.bool false)) rfl rfl rfl rfl (.moveX rfl) ?_
                  refine RunT.xn rfl rfl rfl rfl rfl rfl ?_
                  refine RunT.xn rfl rfl rfl rfl rfl rfl ?_
                  refine RunT.xn rfl rfl rfl rfl rfl rfl ?_
                  refine RunT.xn rfl rfl rfl rfl rfl rfl ?_
                  refine RunT.ot0 (x := .v (.bool false)) rfl rfl rfl rfl (.pickF rfl rfl) ?_
                  refine RunT.ot0 (x := .v (.bool false)) rfl rfl rfl rfl (.assignX rfl) ?_
                  refine RunT.nil ?_
                  obtain rfl := si H
                  refine T.sub (sub_to (st' := ⟨[(0, .v (.bool false))], [], 8, []⟩) [] (by decide) rfl rfl (⟨⟨_, rfl, .one .v⟩, trivial⟩) (trivial)) ?_
                  refine T.ret ?_
                  exact RetOk.same [.v (.bool false)] ⟨rfl, trivial⟩ rfl rfl rfl
              · replace H := cf H g27
                refine RunT.xn rfl rfl rfl (bo g27) rfl rfl ?_
                refine RunT.xn rfl rfl rfl (bo g27) rfl rfl ?_
                refine RunT.xn rfl rfl rfl (bo g27) rfl rfl ?_
                refine RunT.ot0 (x := .v (.bool false)) rfl rfl rfl rfl (.pickF (bo g27) rfl) ?_
                refine RunT.ot0 (x := .v (.bool false)) rfl rfl rfl rfl (.moveX rfl) ?_
                refine RunT.xn rfl rfl rfl rfl rfl rfl ?_
                refine RunT.xn rfl rfl rfl rfl rfl rfl ?_
                refine RunT.ot0 (x := .v (.bool false)) rfl rfl rfl rfl (.pickF rfl rfl) ?_
                refine RunT.ot0 (x := .v (.bool false)) rfl rfl rfl rfl (.moveX rfl) ?_
                refine RunT.xn rfl rfl rfl rfl rfl rfl ?_
                refine RunT.xn rfl rfl rfl rfl rfl rfl ?_
                refine RunT.xn rfl rfl rfl rfl rfl rfl ?_
                refine RunT.ot0 (x := .v (.bool false)) rfl rfl rfl rfl (.pickF rfl rfl) ?_
                refine RunT.ot0 (x := .v (.bool false)) rfl rfl rfl rfl (.moveX rfl) ?_
                refine RunT.xn rfl rfl rfl rfl rfl rfl ?_
                refine RunT.xn rfl rfl rfl rfl rfl rfl ?_
                refine RunT.ot0 (x := .v (.bool false)) rfl rfl rfl rfl (.pickF rfl rfl) ?_
                refine RunT.ot0 (x := .v (.bool false)) rfl rfl rfl rfl (.moveX rfl) ?_
                refine RunT.xn rfl rfl rfl rfl rfl rfl ?_
                refine RunT.xn rfl rfl rfl rfl rfl rfl ?_
                refine RunT.ot0 (x := .v (.bool false)) rfl rfl rfl rfl (.pickF rfl rfl) ?_
                refine RunT.ot0 (x := .v (.bool false)) rfl rfl rfl rfl (.moveX rfl) ?_
                refine RunT.xn rfl rfl rfl rfl rfl rfl ?_
                refine RunT.xn rfl rfl rfl rfl rfl rfl ?_
                refine RunT.ot0 (x := .v (.bool false)) rfl rfl rfl rfl (.pickF rfl rfl) ?_
                refine RunT.ot0 (x := .v (.bool false)) rfl rfl rfl rfl (.moveX rfl) ?_
                refine RunT.xn rfl rfl rfl rfl rfl rfl ?_
                refine RunT.xn rfl rfl rfl rfl rfl rfl ?_
                refine RunT.ot0 (x := .v (.bool false)) rfl rfl rfl rfl (.pickF rfl rfl) ?_
                refine RunT.ot0 (x := .v (.bool false)) rfl rfl rfl rfl (.moveX rfl) ?_
                refine RunT.xn rfl rfl rfl rfl rfl rfl ?_
                refine RunT.xn rfl rfl rfl rfl rfl rfl ?_
                refine RunT.xn rfl rfl rfl rfl rfl rfl ?_
                refine RunT.ot0 (x := .v (.bool false)) rfl rfl rfl rfl (.pickF rfl rfl) ?_
                refine RunT.ot0 (x := .v (.bool false)) rfl rfl rfl rfl (.moveX rfl) ?_
                refine RunT.xn rfl rfl rfl rfl rfl rfl ?_
                refine RunT.xn rfl rfl rfl rfl rfl rfl ?_
                refine RunT.xn rfl rfl rfl rfl rfl rfl ?_
                refine RunT.ot0 (x := .v (.bool false)) rfl rfl rfl rfl (.pickF rfl rfl) ?_
                refine RunT.ot0 (x := .v (.bool false)) rfl rfl rfl rfl (.moveX rfl) ?_
                refine RunT.xn rfl rfl rfl rfl rfl rfl ?_
                refine RunT.xn rfl rfl rfl rfl rfl rfl ?_
                refine RunT.xn rfl rfl rfl rfl rfl rfl ?_
                refine RunT.xn rfl rfl rfl rfl rfl rfl ?_
                refine RunT.ot0 (x := .v (.bool false)) rfl rfl rfl rfl (.pickF rfl rfl) ?_
                refine RunT.ot0 (x := .v (.bool false)) rfl rfl rfl rfl (.assignX rfl) ?_
                refine RunT.nil ?_
                obtain rfl := si H
                refine T.sub (sub_to (st' := ⟨[(0, .v (.bool false))], [], 8, []⟩) [] (by decide) rfl rfl (⟨⟨_, rfl, .one .v⟩, trivial⟩) (trivial)) ?_
                refine T.ret ?_
                exact RetOk.same [.v (.bool false)] ⟨rfl, trivial⟩ rfl rfl rfl
            · replace H := cf H g26
              refine RunT.xn rfl rfl rfl (bo g26) rfl rfl ?_
              refine RunT.xn rfl rfl rfl (bo g26) rfl rfl ?_
              refine RunT.ot0 (x := .v (.bool false)) rfl rfl rfl rfl (.pickF (bo g26) rfl) ?_
              refine RunT.ot0 (x := .v (.bool false)) rfl rfl rfl rfl (.moveX rfl) ?_
              refine RunT.xn rfl rfl rfl rfl rfl rfl ?_
              refine RunT.xn rfl rfl rfl rfl rfl rfl ?_
              refine RunT.xn rfl rfl rfl rfl rfl rfl ?_
              refine RunT.ot0 (x := .v (.bool false)) rfl rfl rfl rfl (.pickF rfl rfl) ?_
              refine RunT.ot0 (x := .v (.bool false)) rfl rfl rfl rfl (.moveX rfl) ?_
              refine RunT.xn rfl rfl rfl rfl rfl rfl ?_
              refine RunT.xn rfl rfl rfl rfl rfl rfl ?_
              refine RunT.ot0 (x := .v (.bool false)) rfl rfl rfl rfl (.pickF rfl rfl) ?_
              refine RunT.ot0 (x := .v (.bool false)) rfl rfl rfl rfl (.moveX rfl) ?_
              refine RunT.xn rfl rfl rfl rfl rfl rfl ?_
              refine RunT.xn rfl rfl rfl rfl rfl rfl ?_
              refine RunT.xn rfl rfl rfl rfl rfl rfl ?_
              refine RunT.ot0 (x := .v (.bool false)) rfl rfl rfl rfl (.pickF rfl rfl) ?_
              refine RunT.ot0 (x := .v (.bool false)) rfl rfl rfl rfl (.moveX rfl) ?_
              refine RunT.xn rfl rfl rfl rfl rfl rfl ?_
              refine RunT.xn rfl rfl rfl rfl rfl rfl ?_
              refine RunT.ot0 (x := .v (.bool false)) rfl rfl rfl rfl (.pickF rfl rfl) ?_
              refine RunT.ot0 (x := .v (.bool false)) rfl rfl rfl rfl (.moveX rfl) ?_
              refine RunT.xn rfl rfl rfl rfl rfl rfl ?_
              refine RunT.xn rfl rfl rfl rfl rfl rfl ?_
              refine RunT.ot0 (x := .v (.bool false)) rfl rfl rfl rfl (.pickF rfl rfl) ?_
              refine RunT.ot0 (x := .v (.bool false)) rfl rfl rfl rfl (.moveX rfl) ?_
              refine RunT.xn rfl rfl rfl rfl rfl rfl ?_
              refine RunT.xn rfl rfl rfl rfl rfl rfl ?_
              refine RunT.ot0 (x := .v (.bool false)) rfl rfl rfl rfl (.pickF rfl rfl) ?_
              refine RunT.ot0 (x := .v (.bool false)) rfl rfl rfl rfl (.moveX rfl) ?_
              refine RunT.xn rfl rfl rfl rfl rfl rfl ?_
              refine RunT.xn rfl rfl rfl rfl rfl rfl ?_
              refine RunT.ot0 (x := .v (.bool false)) rfl rfl rfl rfl (.pickF rfl rfl) ?_
              refine RunT.ot0 (x := .v (.bool false)) rfl rfl rfl rfl (.moveX rfl) ?_
              refine RunT.xn rfl rfl rfl rfl rfl rfl ?_
              refine RunT.xn rfl rfl rfl rfl rfl rfl ?_
              refine RunT.xn rfl rfl rfl rfl rfl rfl ?_
              refine RunT.ot0 (x := .v (.bool false)) rfl rfl rfl rfl (.pickF rfl rfl) ?_
              refine RunT.ot0 (x := .v (.bool false)) rfl rfl rfl rfl (.moveX rfl) ?_
              refine RunT.xn rfl rfl rfl rfl rfl rfl ?_
              refine RunT.xn rfl rfl rfl rfl rfl rfl ?_
              refine RunT.xn rfl rfl rfl rfl rfl rfl ?_
              refine RunT.ot0 (x := .v (.bool false)) rfl rfl rfl rfl (.pickF rfl rfl) ?_
              refine RunT.ot0 (x := .v (.bool false)) rfl rfl rfl rfl (.moveX rfl) ?_
              refine RunT.xn rfl rfl rfl rfl rfl rfl ?_
              refine RunT.xn rfl rfl rfl rfl rfl rfl ?_
              refine RunT.xn rfl rfl rfl rfl rfl rfl ?_
              refine RunT.xn rfl rfl rfl rfl rfl rfl ?_
              refine RunT.ot0 (x := .v (.bool false)) rfl rfl rfl rfl (.pickF rfl rfl) ?_
              refine RunT.ot0 (x := .v (.bool false)) rfl rfl rfl rfl (.assignX rfl) ?_
              refine RunT.nil ?_
              obtain rfl := si H
              refine T.sub (sub_to (st' := ⟨[(0, .v (.bool false))], [], 8, []⟩) [] (by decide) rfl rfl (⟨⟨_, rfl, .one .v⟩, trivial⟩) (trivial)) ?_
              refine T.ret ?_
              exact RetOk.same [.v (.bool false)] ⟨rfl, trivial⟩ rfl rfl rfl
          · replace H := cf H g23
            refine RunT.xn rfl rfl rfl (bo g23) rfl rfl ?_
            refine RunT.xn rfl rfl rfl (bo g23) rfl rfl ?_
            refine RunT.xn rfl rfl rfl (bo g23) rfl rfl ?_
            refine RunT.xn rfl rfl rfl (bo g23) rfl rfl ?_
            refine RunT.ot0 (x := .v (.bool false)) rfl rfl rfl rfl (.pickF (bo g23) rfl) ?_
            refine RunT.ot0 (x := .v (.bool false)) rfl rfl rfl rfl (.moveX rfl) ?_
            refine RunT.xn rfl rfl rfl rfl rfl rfl ?_
            refine RunT.xn rfl rfl rfl rfl rfl rfl ?_
            refine RunT.ot0 (x := .v (.bool false)) rfl rfl rfl rfl (.pickF rfl rfl) ?_
            refine RunT.ot0 (x := .v (.bool false)) rfl rfl rfl rfl (.moveX rfl) ?_
            refine RunT.xn rfl rfl rfl rfl rfl rfl ?_
            refine RunT.xn rfl rfl rfl rfl rfl rfl ?_
            refine RunT.xn rfl rfl rfl rfl rfl rfl ?_
            refine RunT.ot0 (x := .v (.bool false)) rfl rfl rfl rfl (.pickF rfl rfl) ?_
            refine RunT.ot0 (x := .v (.bool false)) rfl rfl rfl rfl (.moveX rfl) ?_
            refine RunT.xn rfl rfl rfl rfl rfl rfl ?_
            refine RunT.xn rfl rfl rfl rfl rfl rfl ?_
            refine RunT.ot0 (x := .v (.bool false)) rfl rfl rfl rfl (.pickF rfl rfl) ?_
            refine RunT.ot0 (x := .v (.bool false)) rfl rfl rfl rfl (.moveX rfl) ?_
            refine RunT.xn rfl rfl rfl rfl rfl rfl ?_
            refine RunT.xn rfl rfl rfl rfl rfl rfl ?_
            refine RunT.xn rfl rfl rfl rfl rfl rfl ?_
            refine RunT.ot0 (x := .v (.bool false)) rfl rfl rfl rfl (.pickF rfl rfl) ?_
            refine RunT.ot0 (x := .v (.bool false)) rfl rfl rfl rfl (.moveX rfl) ?_
            refine RunT.xn rfl rfl rfl rfl rfl rfl ?_
            refine RunT.xn rfl rfl rfl rfl rfl rfl ?_
            refine RunT.ot0 (x := .v (.bool false)) rfl rfl rfl rfl (.pickF rfl rfl) ?_
            refine RunT.ot0 (x := .v (.bool false)) rfl rfl rfl rfl (.moveX rfl) ?_
            refine RunT.xn rfl rfl rfl rfl rfl rfl ?_
            refine RunT.xn rfl rfl rfl rfl rfl rfl ?_
            refine RunT.ot0 (x := .v (.bool false)) rfl rfl rfl rfl (.pickF rfl rfl) ?_
            refine RunT.ot0 (x := .v (.bool false)) rfl rfl rfl rfl (.moveX rfl) ?_
            refine RunT.xn rfl rfl rfl rfl rfl rfl ?_
            refine RunT.xn rfl rfl rfl rfl rfl rfl ?_
            refine RunT.ot0 (x := .v (.bool false)) rfl rfl rfl rfl (.pickF rfl rfl) ?_
            refine RunT.ot0 (x := .v (.bool false)) rfl rfl rfl rfl (.moveX rfl) ?_
            refine RunT.xn rfl rfl rfl rfl rfl rfl ?_
            refine RunT.xn rfl rfl rfl rfl rfl rfl ?_
            refine RunT.ot0 (x := .v (.bool false)) rfl rfl rfl rfl (.pickF rfl rfl) ?_
            refine RunT.ot0 (x := .v (.bool false)) rfl rfl rfl rfl (.moveX rfl) ?_
            refine RunT.xn rfl rfl rfl rfl rfl rfl ?_
            refine RunT.xn rfl rfl rfl rfl rfl rfl ?_
            refine RunT.xn rfl rfl rfl rfl rfl rfl ?_
            refine RunT.ot0 (x := .v (.bool false)) rfl rfl rfl rfl (.pickF rfl rfl) ?_
            refine RunT.ot0 (x := .v (.bool false)) rfl rfl rfl rfl (.moveX rfl) ?_
            refine RunT.xn rfl rfl rfl rfl rfl rfl ?_
            refine RunT.xn rfl rfl rfl rfl rfl rfl ?_
            refine RunT.xn rfl rfl rfl rfl rfl rfl ?_
            refine RunT.ot0 (x := .v (.bool false)) rfl rfl rfl rfl (.pickF rfl rfl) ?_
            refine RunT.ot0 (x := .v (.bool false)) rfl rfl rfl rfl (.moveX rfl) ?_
            refine RunT.xn rfl rfl rfl rfl rfl rfl ?_
            refine RunT.xn rfl rfl rfl rfl rfl rfl ?_
            refine RunT.xn rfl rfl rfl rfl rfl rfl ?_
            refine RunT.xn rfl rfl rfl rfl rfl rfl ?_
            refine RunT.ot0 (x := .v (.bool false)) rfl rfl rfl rfl (.pickF rfl rfl) ?_
            refine RunT.ot0 (x := .v (.bool false)) rfl rfl rfl rfl (.assignX rfl) ?_
            refine RunT.nil ?_
            obtain rfl := si H
            refine T.sub (sub_to (st' := ⟨[(0, .v (.bool false))], [], 8, []⟩) [] (by decide) rfl rfl (⟨⟨_, rfl, .one .v⟩, trivial⟩) (trivial)) ?_
            refine T.ret ?_
            exact RetOk.same [.v (.bool false)] ⟨rfl, trivial⟩ rfl rfl rfl
        · replace H := cf H g20
          refine RunT.xn rfl rfl rfl (bo g20) rfl rfl ?_
          refine RunT.xn rfl rfl rfl (bo g20) rfl rfl ?_
          refine RunT.xn rfl rfl rfl (bo g20) rfl rfl ?_
          refine RunT.xn rfl rfl rfl (bo g20) rfl rfl ?_
          refine RunT.ot0 (x := .v (.bool false)) rfl rfl rfl rfl (.pickF (bo g20) rfl) ?_
          refine RunT.ot0 (x := .v (.bool false)) rfl rfl rfl rfl (.moveX rfl) ?_
          refine RunT.xn rfl rfl rfl rfl rfl rfl ?_
          refine RunT.xn rfl rfl rfl rfl rfl rfl ?_
          refine RunT.xn rfl rfl rfl rfl rfl rfl ?_
          refine RunT.xn rfl rfl rfl rfl rfl rfl ?_
          refine RunT.ot0 (x := .v (.bool false)) rfl rfl rfl rfl (.pickF rfl rfl) ?_
          refine RunT.ot0 (x := .v (.bool false)) rfl rfl rfl rfl (.moveX rfl) ?_
          refine RunT.xn rfl rfl rfl rfl rfl rfl ?_
          refine RunT.xn rfl rfl rfl rfl rfl rfl ?_
          refine RunT.ot0 (x := .v (.bool false)) rfl rfl rfl rfl (.pickF rfl rfl) ?_
          refine RunT.ot0 (x := .v (.bool false)) rfl rfl rfl rfl (.moveX rfl) ?_
          refine RunT.xn rfl rfl rfl rfl rfl rfl ?_
          refine RunT.xn rfl rfl rfl rfl rfl rfl ?_
          refine RunT.xn rfl rfl rfl rfl rfl rfl ?_
          refine RunT.ot0 (x := .v (.bool false)) rfl rfl rfl rfl (.pickF rfl rfl) ?_
          refine RunT.ot0 (x := .v (.bool false)) rfl rfl rfl rfl (.moveX rfl) ?_
          refine RunT.xn rfl rfl rfl rfl rfl rfl ?_
          refine RunT.xn rfl rfl rfl rfl rfl rfl ?_
          refine RunT.ot0 (x := .v (.bool false)) rfl rfl rfl rfl (.pickF rfl rfl) ?_
          refine RunT.ot0 (x := .v (.bool false)) rfl rfl rfl rfl (.moveX rfl) ?_
          refine RunT.xn rfl rfl rfl rfl rfl rfl ?_
          refine RunT.xn rfl rfl rfl rfl rfl rfl ?_
          refine RunT.xn rfl rfl rfl rfl rfl rfl ?_
          refine RunT.ot0 (x := .v (.bool false)) rfl rfl rfl rfl (.pickF rfl rfl) ?_
          refine RunT.ot0 (x := .v (.bool false)) rfl rfl rfl rfl (.moveX rfl) ?_
          refine RunT.xn rfl rfl rfl rfl rfl rfl ?_
          refine RunT.xn rfl rfl rfl rfl rfl rfl ?_
          refine RunT.ot0 (x := .v (.bool false)) rfl rfl rfl rfl (.pickF rfl rfl) ?_
          refine RunT.ot0 (x := .v (.bool false)) rfl rfl rfl rfl (.moveX rfl) ?_
          refine RunT.xn rfl rfl rfl rfl rfl rfl ?_
          refine RunT.xn rfl rfl rfl rfl rfl rfl ?_
          refine RunT.ot0 (x := .v (.bool false)) rfl rfl rfl rfl (.pickF rfl rfl) ?_
          refine RunT.ot0 (x := .v (.bool false)) rfl rfl rfl rfl (.moveX rfl) ?_
          refine RunT.xn rfl rfl rfl rfl rfl rfl ?_
          refine RunT.xn rfl rfl rfl rfl rfl rfl ?_
          refine RunT.ot0 (x := .v (.bool false)) rfl rfl rfl rfl (.pickF rfl rfl) ?_
          refine RunT.ot0 (x := .v (.bool false)) rfl rfl rfl rfl (.moveX rfl) ?_
          refine RunT.xn rfl rfl rfl rfl rfl rfl ?_
          refine RunT.xn rfl rfl rfl rfl rfl rfl ?_
          refine RunT.ot0 (x := .v (.bool false)) rfl rfl rfl rfl (.pickF rfl rfl) ?_
          refine RunT.ot0 (x := .v (.bool false)) rfl rfl rfl rfl (.moveX rfl) ?_
          refine RunT.xn rfl rfl rfl rfl rfl rfl ?_
          refine RunT.xn rfl rfl rfl rfl rfl rfl ?_
          refine RunT.xn rfl rfl rfl rfl rfl rfl ?_
          refine RunT.ot0 (x := .v (.bool false)) rfl rfl rfl rfl (.pickF rfl rfl) ?_
          refine RunT.ot0 (x := .v (.bool false)) rfl rfl rfl rfl (.moveX rfl) ?_
          refine RunT.xn rfl rfl rfl rfl rfl rfl ?_
          refine RunT.xn rfl rfl rfl rfl rfl rfl ?_
          refine RunT.xn rfl rfl rfl rfl rfl rfl ?_
          refine RunT.ot0 (x := .v (.bool false)) rfl rfl rfl rfl (.pickF rfl rfl) ?_
          refine RunT.ot0 (x := .v (.bool false)) rfl rfl rfl rfl (.moveX rfl) ?_
          refine RunT.xn rfl rfl rfl rfl rfl rfl ?_
          refine RunT.xn rfl rfl rfl rfl rfl rfl ?_
          refine RunT.xn rfl rfl rfl rfl rfl rfl ?_
          refine RunT.xn rfl rfl rfl rfl rfl rfl ?_
          refine RunT.ot0 (x := .v (.bool false)) rfl rfl rfl rfl (.pickF rfl rfl) ?_
          refine RunT.ot0 (x := .v (.bool false)) rfl rfl rfl rfl (.assignX rfl) ?_
          refine RunT.nil ?_
          obtain rfl := si H
          refine T.sub (sub_to (st' := ⟨[(0, .v (.bool false))], [], 8, []⟩) [] (by decide) rfl rfl (⟨⟨_, rfl, .one .v⟩, trivial⟩) (trivial)) ?_
          refine T.ret ?_
          exact RetOk.same [.v (.bool false)] ⟨rfl, trivial⟩ rfl rfl rfl
      · replace H := cf H g17
        refine RunT.xn rfl rfl rfl (bo g17) rfl rfl ?_
        refine RunT.xn rfl rfl rfl (bo g17) rfl rfl ?_
        refine RunT.xn rfl rfl rfl (bo g17) rfl rfl ?_
        refine RunT.xn rfl rfl rfl (bo g17) rfl rfl ?_
        refine RunT.ot0 (x := .v (.bool false)) rfl rfl rfl rfl (.pickF (bo g17) rfl) ?_
        refine RunT.ot0 (x := .v (.bool false)) rfl rfl rfl rfl (.moveX rfl) ?_
        refine RunT.xn rfl rfl rfl rfl rfl rfl ?_
        refine RunT.xn rfl rfl rfl rfl rfl rfl ?_
        refine RunT.xn rfl rfl rfl rfl rfl rfl ?_
        refine RunT.xn rfl rfl rfl rfl rfl rfl ?_
        refine RunT.ot0 (x := .v (.bool false)) rfl rfl rfl rfl (.pickF rfl rfl) ?_
        refine RunT.ot0 (x := .v (.bool false)) rfl rfl rfl rfl (.moveX rfl) ?_
        refine RunT.xn rfl rfl rfl rfl rfl rfl ?_
        refine RunT.xn rfl rfl rfl rfl rfl rfl ?_
        refine RunT.xn rfl rfl rfl rfl rfl rfl ?_
        refine RunT.xn rfl rfl rfl rfl rfl rfl ?_
        refine RunT.ot0 (x := .v (.bool false)) rfl rfl rfl rfl (.pickF rfl rfl) ?_
        refine RunT.ot0 (x := .v (.bool false)) rfl rfl rfl rfl (.moveX rfl) ?_
        refine RunT.xn rfl rfl rfl rfl rfl rfl ?_
        refine RunT.xn rfl rfl rfl rfl rfl rfl ?_
        refine RunT.ot0 (x := .v (.bool false)) rfl rfl rfl rfl (.pickF rfl rfl) ?_
        refine RunT.ot0 (x := .v (.bool false)) rfl rfl rfl rfl (.moveX rfl) ?_
        refine RunT.xn rfl rfl rfl rfl rfl rfl ?_
        refine RunT.xn rfl rfl rfl rfl rfl rfl ?_
        refine RunT.xn rfl rfl rfl rfl rfl rfl ?_
        refine RunT.ot0 (x := .v (.bool false)) rfl rfl rfl rfl (.pickF rfl rfl) ?_
        refine RunT.ot0 (x := .v (.bool false)) rfl rfl rfl rfl (.moveX rfl) ?_
        refine RunT.xn rfl rfl rfl rfl rfl rfl ?_
        refine RunT.xn rfl rfl rfl rfl rfl rfl ?_
        refine RunT.ot0 (x := .v (.bool false)) rfl rfl rfl rfl (.pickF rfl rfl) ?_
        refine RunT.ot0 (x := .v (.bool false)) rfl rfl rfl rfl (.moveX rfl) ?_
        refine RunT.xn rfl rfl rfl rfl rfl rfl ?_
        refine RunT.xn rfl rfl rfl rfl rfl rfl ?_
        refine RunT.xn rfl rfl rfl rfl rfl rfl ?_
        refine RunT.ot0 (x := .v (.bool false)) rfl rfl rfl rfl (.pickF rfl rfl) ?_
        refine RunT.ot0 (x := .v (.bool false)) rfl rfl rfl rfl (.moveX rfl) ?_
        refine RunT.xn rfl rfl rfl rfl rfl rfl ?_
        refine RunT.xn rfl rfl rfl rfl rfl rfl ?_
        refine RunT.ot0 (x := .v (.bool false)) rfl rfl rfl rfl (.pickF rfl rfl) ?_
        refine RunT.ot0 (x := .v (.bool false)) rfl rfl rfl rfl (.moveX rfl) ?_
        refine RunT.xn rfl rfl rfl rfl rfl rfl ?_
        refine RunT.xn rfl rfl rfl rfl rfl rfl ?_
        refine RunT.ot0 (x := .v (.bool false)) rfl rfl rfl rfl (.pickF rfl rfl) ?_
        refine RunT.ot0 (x := .v (.bool false)) rfl rfl rfl rfl (.moveX rfl) ?_
        refine RunT.xn rfl rfl rfl rfl rfl rfl ?_
        refine RunT.xn rfl rfl rfl rfl rfl rfl ?_
        refine RunT.ot0 (x := .v (.bool false)) rfl rfl rfl rfl (.pickF rfl rfl) ?_
        refine RunT.ot0 (x := .v (.bool false)) rfl rfl rfl rfl (.moveX rfl) ?_
        refine RunT.xn rfl rfl rfl rfl rfl rfl ?_
        refine RunT.xn rfl rfl rfl rfl rfl rfl ?_
        refine RunT.ot0 (x := .v (.bool false)) rfl rfl rfl rfl (.pickF rfl rfl) ?_
        refine RunT.ot0 (x := .v (.bool false)) rfl rfl rfl rfl (.moveX rfl) ?_
        refine RunT.xn rfl rfl rfl rfl rfl rfl ?_
        refine RunT.xn rfl rfl rfl rfl rfl rfl ?_
        refine RunT.xn rfl rfl rfl rfl rfl rfl ?_
        refine RunT.ot0 (x := .v (.bool false)) rfl rfl rfl rfl (.pickF rfl rfl) ?_
        refine RunT.ot0 (x := .v (.bool false)) rfl rfl rfl rfl (.moveX rfl) ?_
        refine RunT.xn rfl rfl rfl rfl rfl rfl ?_
        refine RunT.xn rfl rfl rfl rfl rfl rfl ?_
        refine RunT.xn rfl rfl rfl rfl rfl rfl ?_
        refine RunT.ot0 (x := .v (.bool false)) rfl rfl rfl rfl (.pickF rfl rfl) ?_
        refine RunT.ot0 (x := .v (.bool false)) rfl rfl rfl rfl (.moveX rfl) ?_
        refine RunT.xn rfl rfl rfl rfl rfl rfl ?_
        refine RunT.xn rfl rfl rfl rfl rfl rfl ?_
        refine RunT.xn rfl rfl rfl rfl rfl rfl ?_
        refine RunT.xn rfl rfl rfl rfl rfl rfl ?_
        refine RunT.ot0 (x := .v (.bool false)) rfl rfl rfl rfl (.pickF rfl rfl) ?_
        refine RunT.ot0 (x := .v (.bool false)) rfl rfl rfl rfl (.assignX rfl) ?_
        refine RunT.nil ?_
        obtain rfl := si H
        refine T.sub (sub_to (st' := ⟨[(0, .v (.bool false))], [], 8, []⟩) [] (by decide) rfl rfl (⟨⟨_, rfl, .one .v⟩, trivial⟩) (trivial)) ?_
        refine T.ret ?_
        exact RetOk.same [.v (.bool false)] ⟨rfl, trivial⟩ rfl rfl rfl
    · replace H := cf H g14
      refine RunT.xn rfl rfl rfl (bo g14) rfl rfl ?_
      refine RunT.xn rfl rfl rfl (bo g14) rfl rfl ?_
      refine RunT.xn rfl rfl rfl (bo g14) rfl rfl ?_
      refine RunT.xn rfl rfl rfl (bo g14) rfl rfl ?_
      refine RunT.ot0 (x := .v (.bool false)) rfl rfl rfl rfl (.pickF (bo g14) rfl) ?_
      refine RunT.ot0 (x := .v (.bool false)) rfl rfl rfl rfl (.moveX rfl) ?_
      refine RunT.xn rfl rfl rfl rfl rfl rfl ?_
      refine RunT.xn rfl rfl rfl rfl rfl rfl ?_
      refine RunT.xn rfl rfl rfl rfl rfl rfl ?_
      refine RunT.xn rfl rfl rfl rfl rfl rfl ?_
      refine RunT.ot0 (x := .v (.bool false)) rfl rfl rfl rfl (.pickF rfl rfl) ?_
      refine RunT.ot0 (x := .v (.bool false)) rfl rfl rfl rfl (.moveX rfl) ?_
      refine RunT.xn rfl rfl rfl rfl rfl rfl ?_
      refine RunT.xn rfl rfl rfl rfl rfl rfl ?_
      refine RunT.xn rfl rfl rfl rfl rfl rfl ?_
      refine RunT.xn rfl rfl rfl rfl rfl rfl ?_
      refine RunT.ot0 (x := .v (.bool false)) rfl rfl rfl rfl (.pickF rfl rfl) ?_
      refine RunT.ot0 (x := .v (.bool false)) rfl rfl rfl rfl (.moveX rfl) ?_
      refine RunT.xn rfl rfl rfl rfl rfl rfl ?_
      refine RunT.xn rfl rfl rfl rfl rfl rfl ?_
      refine RunT.xn rfl rfl rfl rfl rfl rfl ?_
      refine RunT.xn rfl rfl rfl rfl rfl rfl ?_
      refine RunT.ot0 (x := .v (.bool false)) rfl rfl rfl rfl (.pickF rfl rfl) ?_
      refine RunT.ot0 (x := .v (.bool false)) rfl rfl rfl rfl (.moveX rfl) ?_
      refine RunT.xn rfl rfl rfl rfl rfl rfl ?_
      refine RunT.xn rfl rfl rfl rfl rfl rfl ?_
      refine RunT.ot0 (x := .v (.bool false)) rfl rfl rfl rfl (.pickF rfl rfl) ?_
      refine RunT.ot0 (x := .v (.bool false)) rfl rfl rfl rfl (.moveX rfl) ?_
      refine RunT.xn rfl rfl rfl rfl rfl rfl ?_
      refine RunT.xn rfl rfl rfl rfl rfl rfl ?_
      refine RunT.xn rfl rfl rfl rfl rfl rfl ?_
      refine RunT.ot0 (x := .v (.bool false)) rfl rfl rfl rfl (.pickF rfl rfl) ?_
      refine RunT.ot0 (x := .v (.bool false)) rfl rfl rfl rfl (.moveX rfl) ?_
      refine RunT.xn rfl rfl rfl rfl rfl rfl ?_
      refine RunT.xn rfl rfl rfl rfl rfl rfl ?_
      refine RunT.ot0 (x := .v (.bool false)) rfl rfl rfl rfl (.pickF rfl rfl) ?_
      refine RunT.ot0 (x := .v (.bool false)) rfl rfl rfl rfl (.moveX rfl) ?_
      refine RunT.xn rfl rfl rfl rfl rfl rfl ?_
      refine RunT.xn rfl rfl rfl rfl rfl rfl ?_
      refine RunT.xn rfl rfl rfl rfl rfl rfl ?_
      refine RunT.ot0 (x := .v (.bool false)) rfl rfl rfl rfl (.pickF rfl rfl) ?_
      refine RunT.ot0 (x := .v (.bool false)) rfl rfl rfl rfl (.moveX rfl) ?_
      refine RunT.xn rfl rfl rfl rfl rfl rfl ?_
      refine RunT.xn rfl rfl rfl rfl rfl rfl ?_
      refine RunT.ot0 (x := .v (.bool false)) rfl rfl rfl rfl (.pickF rfl rfl) ?_
      refine RunT.ot0 (x := .v (.bool false)) rfl rfl rfl rfl (.moveX rfl) ?_
      refine RunT.xn rfl rfl rfl rfl rfl rfl ?_
      refine RunT.xn rfl rfl rfl rfl rfl rfl ?_
      refine RunT.ot0 (x := .v (.bool false)) rfl rfl rfl rfl (.pickF rfl rfl) ?_
      refine RunT.ot0 (x := .v (.bool false)) rfl rfl rfl rfl (.moveX rfl) ?_
      refine RunT.xn rfl rfl rfl rfl rfl rfl ?_
      refine RunT.xn rfl rfl rfl rfl rfl rfl ?_
      refine RunT.ot0 (x := .v (.bool false)) rfl rfl rfl rfl (.pickF rfl rfl) ?_
      refine RunT.ot0 (x := .v (.bool false)) rfl rfl rfl rfl (.moveX rfl) ?_
      refine RunT.xn rfl rfl rfl rfl rfl rfl ?_
      refine RunT.xn rfl rfl rfl rfl rfl rfl ?_
      refine RunT.ot0 (x := .v (.bool false)) rfl rfl rfl rfl (.pickF rfl rfl) ?_
      refine RunT.ot0 (x := .v (.bool false)) rfl rfl rfl rfl (.moveX rfl) ?_
      refine RunT.xn rfl rfl rfl rfl rfl rfl ?_
      refine RunT.xn rfl rfl rfl rfl rfl rfl ?_
      refine RunT.xn rfl rfl rfl rfl rfl rfl ?_
      refine RunT.ot0 (x := .v (.bool false)) rfl rfl rfl rfl (.pickF rfl rfl) ?_
      refine RunT.ot0 (x := .v (.bool false)) rfl rfl rfl rfl (.moveX rfl) ?_
      refine RunT.xn rfl rfl rfl rfl rfl rfl ?_
      refine RunT.xn rfl rfl rfl rfl rfl rfl ?_
      refine RunT.xn rfl rfl rfl rfl rfl rfl ?_
      refine RunT.ot0 (x := .v (.bool false)) rfl rfl rfl rfl (.pickF rfl rfl) ?_
      refine RunT.ot0 (x := .v (.bool false)) rfl rfl rfl rfl (.moveX rfl) ?_
      refine RunT.xn rfl rfl rfl rfl rfl rfl ?_
      refine RunT.xn rfl rfl rfl rfl rfl rfl ?_
      refine RunT.xn rfl rfl rfl rfl rfl rfl ?_
      refine RunT.xn rfl rfl rfl rfl rfl rfl ?_
      refine RunT.ot0 (x := .v (.bool false)) rfl rfl rfl rfl (.pickF rfl rfl) ?_
      refine RunT.ot0 (x := .v (.bool false)) rfl rfl rfl rfl (.assignX rfl) ?_
      refine RunT.nil ?_
      obtain rfl := si H
      refine T.sub (sub_to (st' := ⟨[(0, .v (.bool false))], [], 8, []⟩) [] (by decide) rfl rfl (⟨⟨_, rfl, .one .v⟩, trivial⟩) (trivial)) ?_
      refine T.ret ?_
      exact RetOk.same [.v (.bool false)] ⟨rfl, trivial⟩ rfl rfl rfl
  · replace H := cf H g13
    refine RunT.xn rfl rfl rfl (bo g13) rfl rfl ?_
    refine RunT.xn rfl rfl rfl (bo g13) rfl rfl ?_
    refine RunT.xn rfl rfl rfl (bo g13) rfl rfl ?_
    refine RunT.ot0 (x := .v (.bool false)) rfl rfl rfl rfl (.pickF (bo g13) rfl) ?_
    refine RunT.ot0 (x := .v (.bool false)) rfl rfl rfl rfl (.moveX rfl) ?_
    refine RunT.xn rfl rfl rfl rfl rfl rfl ?_
    refine RunT.xn rfl rfl rfl rfl rfl rfl ?_
    refine RunT.xn rfl rfl rfl rfl rfl rfl ?_
    refine RunT.xn rfl rfl rfl rfl rfl rfl ?_
    refine RunT.ot0 (x := .v (.bool false)) rfl rfl rfl rfl (.pickF rfl rfl) ?_
    refine RunT.ot0 (x := .v (.bool false)) rfl rfl rfl rfl (.moveX rfl) ?_
    refine RunT.xn rfl rfl rfl rfl rfl rfl ?_
    refine RunT.xn rfl rfl rfl rfl rfl rfl ?_
    refine RunT.xn rfl rfl rfl rfl rfl rfl ?_
    refine RunT.xn rfl rfl rfl rfl rfl rfl ?_
    refine RunT.ot0 (x := .v (.bool false)) rfl rfl rfl rfl (.pickF rfl rfl) ?_
    refine RunT.ot0 (x := .v (.bool false)) rfl rfl rfl rfl (.moveX rfl) ?_
    refine RunT.xn rfl rfl rfl rfl rfl rfl ?_
    refine RunT.xn rfl rfl rfl rfl rfl rfl ?_
    refine RunT.xn rfl rfl rfl rfl rfl rfl ?_
    refine RunT.xn rfl rfl rfl rfl rfl rfl ?_
    refine RunT.ot0 (x := .v (.bool false)) rfl rfl rfl rfl (.pickF rfl rfl) ?_
    refine RunT.ot0 (x := .v (.bool false)) rfl rfl rfl rfl (.moveX rfl) ?_
    refine RunT.xn rfl rfl rfl rfl rfl rfl ?_
    refine RunT.xn rfl rfl rfl rfl rfl rfl ?_
    refine RunT.xn rfl rfl rfl rfl rfl rfl ?_
    refine RunT.xn rfl rfl rfl rfl rfl rfl ?_
    refine RunT.ot0 (x := .v (.bool false)) rfl rfl rfl rfl (.pickF rfl rfl) ?_
    refine RunT.ot0 (x := .v (.bool false)) rfl rfl rfl rfl (.moveX rfl) ?_
    refine RunT.xn rfl rfl rfl rfl rfl rfl ?_
    refine RunT.xn rfl rfl rfl rfl rfl rfl ?_
    refine RunT.ot0 (x := .v (.bool false)) rfl rfl rfl rfl (.pickF rfl rfl) ?_
    refine RunT.ot0 (x := .v (.bool false)) rfl rfl rfl rfl (.moveX rfl) ?_
    refine RunT.xn rfl rfl rfl rfl rfl rfl ?_
    refine RunT.xn rfl rfl rfl rfl rfl rfl ?_
    refine RunT.xn rfl rfl rfl rfl rfl rfl ?_
    refine RunT.ot0 (x := .v (.bool false)) rfl rfl rfl rfl (.pickF rfl rfl) ?_
    refine RunT.ot0 (x := .v (.bool false)) rfl rfl rfl rfl (.moveX rfl) ?_
    refine RunT.xn rfl rfl rfl rfl rfl rfl ?_
    refine RunT.xn rfl rfl rfl rfl rfl rfl ?_
    refine RunT.ot0 (x := .v (.bool false)) rfl rfl rfl rfl (.pickF rfl rfl) ?_
    refine RunT.ot0 (x := .v (.bool false)) rfl rfl rfl rfl (.moveX rfl) ?_
    refine RunT.xn rfl rfl rfl rfl rfl rfl ?_
    refine RunT.xn rfl rfl rfl rfl rfl rfl ?_
    refine RunT.xn rfl rfl rfl rfl rfl rfl ?_
    refine RunT.ot0 (x := .v (.bool false)) rfl rfl rfl rfl (.pickF rfl rfl) ?_
    refine RunT.ot0 (x := .v (.bool false)) rfl rfl rfl rfl (.moveX rfl) ?_
    refine RunT.xn rfl rfl rfl rfl rfl rfl ?_
    refine RunT.xn rfl rfl rfl rfl rfl rfl ?_
    refine RunT.ot0 (x := .v (.bool false)) rfl rfl rfl rfl (.pickF rfl rfl) ?_
    refine RunT.ot0 (x := .v (.bool false)) rfl rfl rfl rfl (.moveX rfl) ?_
    refine RunT.xn rfl rfl rfl rfl rfl rfl ?_
    refine RunT.xn rfl rfl rfl rfl rfl rfl ?_
    refine RunT.ot0 (x := .v (.bool false)) rfl rfl rfl rfl (.pickF rfl rfl) ?_
    refine RunT.ot0 (x := .v (.bool false)) rfl rfl rfl rfl (.moveX rfl) ?_
    refine RunT.xn rfl rfl rfl rfl rfl rfl ?_
    refine RunT.xn rfl rfl rfl rfl rfl rfl ?_
    refine RunT.ot0 (x := .v (.bool false)) rfl rfl rfl rfl (.pickF rfl rfl) ?_
    refine RunT.ot0 (x := .v (.bool false)) rfl rfl rfl rfl (.moveX rfl) ?_
    refine RunT.xn rfl rfl rfl rfl rfl rfl ?_
    refine RunT.xn rfl rfl rfl rfl rfl rfl ?_
    refine RunT.ot0 (x := .v (.bool false)) rfl rfl rfl rfl (.pickF rfl rfl) ?_
    refine RunT.ot0 (x := .v (.bool false)) rfl rfl rfl rfl (.moveX rfl) ?_
    refine RunT.xn rfl rfl rfl rfl rfl rfl ?_
    refine RunT.xn rfl rfl rfl rfl rfl rfl ?_
    refine RunT.xn rfl rfl rfl rfl rfl rfl ?_
    refine RunT.ot0 (x := .v (.bool false)) rfl rfl rfl rfl (.pickF rfl rfl) ?_
    refine RunT.ot0 (x := .v (.bool false)) rfl rfl rfl rfl (.moveX rfl) ?_
    refine RunT.xn rfl rfl rfl rfl rfl rfl ?_
    refine RunT.xn rfl rfl rfl rfl rfl rfl ?_
    refine RunT.xn rfl rfl rfl rfl rfl rfl ?_
    refine RunT.ot0 (x := .v (.bool false)) rfl rfl rfl rfl (.pickF rfl rfl) ?_
    refine RunT.ot0 (x := .v (.bool false)) rfl rfl rfl rfl (.moveX rfl) ?_
    refine RunT.xn rfl rfl rfl rfl rfl rfl ?_
    refine RunT.xn rfl rfl rfl rfl rfl rfl ?_
    refine RunT.xn rfl rfl rfl rfl rfl rfl ?_
    refine RunT.xn rfl rfl rfl rfl rfl rfl ?_
    refine RunT.ot0 (x := .v (.bool false)) rfl rfl rfl rfl (.pickF rfl rfl) ?_
    refine RunT.ot0 (x := .v (.bool false)) rfl rfl rfl rfl (.assignX rfl) ?_
    refine RunT.nil ?_
    obtain rfl := si H
    refine T.sub (sub_to (st' := ⟨[(0, .v (.bool false))], [], 8, []⟩) [] (by decide) rfl rfl (⟨⟨_, rfl, .one .v⟩, trivial⟩) (trivial)) ?_
    refine T.ret ?_
    exact RetOk.same [.v (.bool false)] ⟨rfl, trivial⟩ rfl rfl rfl
set_option maxHeartbeats 4000000 in
theorem ref6_MayParty_pc (al : Bool) (k : Nat) (a0 : Party) (o : Bool) (H : ref6_MayParty k a0 = some o) : PC Try.prog al 16 [.agg [.v (.int .i64 a0.Size), .v (.int .i64 a0.Wheels)]] (.v (.bool o)) := by
  unfold ref6_MayParty at H
  refine PC.of_T Try.func16 rfl rfl (n := 31) rfl rfl (.inr rfl) ?_
  intro base B w0
  refine T.st (st' := ⟨[(0, .agg [.v (.int .i64 a0.Size), .v (.int .i64 a0.Wheels)])], [], 0, []⟩) rfl ?_
  refine T.seq ?_
  refine T.region ?_
  refine RunT.ot1 (x := .ptr 0 0) (p0 := (0, some (.box [.v (.int .i64 a0.Size), .v (.int .i64 a0.Wheels)]))) (n' := 8) rfl rfl rfl rfl (.boxX rfl rfl rfl) rfl ?_
  refine RunT.ot0 (x := .v (.bool false)) rfl rfl rfl rfl (.assignX rfl) ?_
  refine RunT.nil ?_
  refine T.seq ?_
  refine T.region ?_
  refine RunT.ot0 (x := .ptr 0 0) rfl rfl rfl rfl (.fieldPX fl23_0 rfl rfl) ?_
  refine RunT.ot0 (x := .v (.int .i64 a0.Size)) rfl rfl rfl rfl (.loadP ty3 rfl rfl rfl) ?_
  refine RunT.ot0 (x := .v (.bool (decide (1 ≤ a0.Size)))) rfl rfl rfl rfl (.bin rfl rfl (fun w => b_geq w) rfl) ?_
  refine RunT.ot0 (x := .v (.bool (decide (1 ≤ a0.Size)))) rfl rfl rfl rfl (.moveX rfl) ?_
  refine RunT.cases (t := 6) (c := decide (1 ≤ a0.Size)) rfl (fun g1 => ?_) (fun g1 => ?_)
  · replace H := ct H g1
    refine RunT.gt0 (x := .ptr 0 0) rfl rfl rfl (bo g1) rfl rfl (.fieldPX fl23_0 rfl rfl) ?_
    refine RunT.gt0 (x := .v (.int .i64 a0.Size)) rfl rfl rfl (bo g1) rfl rfl (.loadP ty3 rfl rfl rfl) ?_
    refine RunT.gt0 (x := .v (.bool (decide (a0.Size ≤ 8)))) rfl rfl rfl (bo g1) rfl rfl (.bin rfl rfl (fun w => b_leq w) rfl) ?_
    refine RunT.ot0 (x := .v (.bool (decide (a0.Size ≤ 8)))) rfl rfl rfl rfl (.pickT (bo g1) rfl) ?_
    refine RunT.ot0 (x := .v (.bool (decide (a0.Size ≤ 8)))) rfl rfl rfl rfl (.moveX rfl) ?_
    refine RunT.cases (t := 11) (c := decide (a0.Size ≤ 8)) rfl (fun g2 => ?_) (fun g2 => ?_)
    · replace H := ct H g2
      refine RunT.gt0 (x := .ptr 0 1) rfl rfl rfl (bo g2) rfl rfl (.fieldPX fl23_1 rfl rfl) ?_
      refine RunT.gt0 (x := .v (.int .i64 a0.Wheels)) rfl rfl rfl (bo g2) rfl rfl (.loadP ty3 rfl rfl rfl) ?_
      refine RunT.gt0 (x := .v (.bool (decide (0 ≤ a0.Wheels)))) rfl rfl rfl (bo g2) rfl rfl (.bin rfl rfl (fun w => b_geq w) rfl) ?_
      refine RunT.ot0 (x := .v (.bool (decide (0 ≤ a0.Wheels)))) rfl rfl rfl rfl (.pickT (bo g2) rfl) ?_
      refine RunT.ot0 (x := .v (.bool (decide (0 ≤ a0.Wheels)))) rfl rfl rfl rfl (.moveX rfl) ?_
      refine RunT.cases (t := 16) (c := decide (0 ≤ a0.Wheels)) rfl (fun g3 => ?_) (fun g3 => ?_)
      · replace H := ct H g3
        refine RunT.gt0 (x := .ptr 0 1) rfl rfl rfl (bo g3) rfl rfl (.fieldPX fl23_1 rfl rfl) ?_
        refine RunT.gt0 (x := .v (.int .i64 a0.Wheels)) rfl rfl rfl (bo g3) rfl rfl (.loadP ty3 rfl rfl rfl) ?_
        refine RunT.gt0 (x := .v (.bool (decide (a0.Wheels ≤ 2)))) rfl rfl rfl (bo g3) rfl rfl (.bin rfl rfl (fun w => b_leq w) rfl) ?_
        refine RunT.ot0 (x := .v (.bool (decide (a0.Wheels ≤ 2)))) rfl rfl rfl rfl (.pickT (bo g3) rfl) ?_
        refine RunT.ot0 (x := .v (.bool (decide (a0.Wheels ≤ 2)))) rfl rfl rfl rfl (.moveX rfl) ?_
        refine RunT.cases (t := 21) (c := decide (a0.Wheels ≤ 2)) rfl (fun g4 => ?_) (fun g4 => ?_)
        · replace H := ct H g4
          refine RunT.gt0 (x := .ptr 0 1) rfl rfl rfl (bo g4) rfl rfl (.fieldPX fl23_1 rfl rfl) ?_
          refine RunT.gt0 (x := .v (.int .i64 a0.Wheels)) rfl rfl rfl (bo g4) rfl rfl (.loadP ty3 rfl rfl rfl) ?_
          refine RunT.gt0 (x := .ptr 0 0) rfl rfl rfl (bo g4) rfl rfl (.fieldPX fl23_0 rfl rfl) ?_
          refine RunT.gt0 (x := .v (.int .i64 a0.Size)) rfl rfl rfl (bo g4) rfl rfl (.loadP ty3 rfl rfl rfl) ?_
          refine RunT.gt0 (x := .ptr 0 1) rfl rfl rfl (bo g4) rfl rfl (.fieldPX fl23_1 rfl rfl) ?_
          refine RunT.gt0 (x := .v (.int .i64 a0.Wheels)) rfl rfl rfl (bo g4) rfl rfl (.loadP ty3 rfl rfl rfl) ?_
          refine RunT.gt0 (x := .v (.int .i64 (wr (a0.Size - a0.Wheels)))) rfl rfl rfl (bo g4) rfl rfl (.bin rfl rfl (fun w => b_subw w) rfl) ?_
          refine RunT.gt0 (x := .v (.bool (decide (a0.Wheels ≤ (wr (a0.Size - a0.Wheels)))))) rfl rfl rfl (bo g4) rfl rfl (.bin rfl rfl (fun w => b_leq w) rfl) ?_
          refine RunT.ot0 (x := .v (.bool (decide (a0.Wheels ≤ (wr (a0.Size - a0.Wheels)))))) rfl rfl rfl rfl (.pickT (bo g4) rfl) ?_
          refine RunT.ot0 (x := .v (.bool (decide (a0.Wheels ≤ (wr (a0.Size - a0.Wheels)))))) rfl rfl rfl rfl (.assignX rfl) ?_
          refine RunT.nil ?_
          obtain rfl := si H
          refine T.sub (sub_to (st' := ⟨[(2, .v (.bool (decide (a0.Wheels ≤ (wr (a0.Size - a0.Wheels))))))], [], 8, []⟩) [] (by decide) rfl rfl (⟨⟨_, rfl, .one .v⟩, trivial⟩) (trivial)) ?_
          refine T.ret ?_
          exact RetOk.same [.v (.bool (decide (a0.Wheels ≤ (wr (a0.Size - a0.Wheels)))))] ⟨rfl, trivial⟩ rfl rfl rfl
        · replace H := cf H g4
          refine RunT.xn rfl rfl rfl (bo g4) rfl rfl ?_
          refine RunT.xn rfl rfl rfl (bo g4) rfl rfl ?_
          refine RunT.xn rfl rfl rfl (bo g4) rfl rfl ?_
          refine RunT.xn rfl rfl rfl (bo g4) rfl rfl ?_
          refine RunT.xn rfl rfl rfl (bo g4) rfl rfl ?_
          refine RunT.xn rfl rfl rfl (bo g4) rfl rfl ?_
          refine RunT.xn rfl rfl rfl (bo g4) rfl rfl ?_
          refine RunT.xn rfl rfl rfl (bo g4) rfl rfl ?_
          refine RunT.ot0 (x := .v (.bool false)) rfl rfl rfl rfl (.pickF (bo g4) rfl) ?_
          refine RunT.ot0 (x := .v (.bool false)) rfl rfl rfl rfl (.assignX rfl) ?_
          refine RunT.nil ?_
          obtain rfl := si H
          refine T.sub (sub_to (st' := ⟨[(2, .v (.bool false))], [], 8, []⟩) [] (by decide) rfl rfl (⟨⟨_, rfl, .one .v⟩, trivial⟩) (trivial)) ?_
          refine T.ret ?_
          exact RetOk.same [.v (.bool false)] ⟨rfl, trivial⟩ rfl rfl rfl
      · replace H := cf H g3
        refine RunT.xn rfl rfl rfl (bo g3) rfl rfl ?_
        refine RunT.xn rfl rfl rfl (bo g3) rfl rfl ?_
        refine RunT.xn rfl rfl rfl (bo g3) rfl rfl ?_
        refine RunT.ot0 (x := .v (.bool false)) rfl rfl rfl rfl (.pickF (bo g3) rfl) ?_
        refine RunT.ot0 (x := .v (.bool false)) rfl rfl rfl rfl (.moveX rfl) ?_
        refine RunT.xn rfl rfl rfl rfl rfl rfl ?_
        refine RunT.xn rfl rfl rfl rfl rfl rfl ?_
        refine RunT.xn rfl rfl rfl rfl rfl rfl ?_
        refine RunT.xn rfl rfl rfl rfl rfl rfl ?_
        refine RunT.xn rfl rfl rfl rfl rfl rfl ?_
        refine RunT.xn rfl rfl rfl rfl rfl rfl ?_
        refine RunT.xn rfl rfl rfl rfl rfl rfl ?_
        refine RunT.xn rfl rfl rfl rfl rfl rfl ?_
        refine RunT.ot0 (x := .v (.bool false)) rfl rfl rfl rfl (.pickF rfl rfl) ?_
        refine RunT.ot0 (x := .v (.bool false)) rfl rfl rfl rfl (.assignX rfl) ?_
        refine RunT.nil ?_
        obtain rfl := si H
        refine T.sub (sub_to (st' := ⟨[(2, .v (.bool false))], [], 8, []⟩) [] (by decide) rfl rfl (⟨⟨_, rfl, .one .v⟩, trivial⟩) (trivial)) ?_
        refine T.ret ?_
        exact RetOk.same [.v (.bool false)] ⟨rfl, trivial⟩ rfl rfl rfl
    · replace H := cf H g2
      refine RunT.xn rfl rfl rfl (bo g2) rfl rfl ?_
      refine RunT.xn rfl rfl rfl (bo g2) rfl rfl ?_
      refine RunT.xn rfl rfl rfl (bo g2) rfl rfl ?_
      refine RunT.ot0 (x := .v (.bool false)) rfl rfl rfl rfl (.pickF (bo g2) rfl) ?_
      refine RunT.ot0 (x := .v (.bool false)) rfl rfl rfl rfl (.moveX rfl) ?_
      refine RunT.xn rfl rfl rfl rfl rfl rfl ?_
      refine RunT.xn rfl rfl rfl rfl rfl rfl ?_
      refine RunT.xn rfl rfl rfl rfl rfl rfl ?_
      refine RunT.ot0 (x := .v (.bool false)) rfl rfl rfl rfl (.pickF rfl rfl) ?_
      refine RunT.ot0 (x := .v (.bool false)) rfl rfl rfl rfl (.moveX rfl) ?_
      refine RunT.xn rfl rfl rfl rfl rfl rfl ?_
      refine RunT.xn rfl rfl rfl rfl rfl rfl ?_
      refine RunT.xn rfl rfl rfl rfl rfl rfl ?_
      refine RunT.xn rfl rfl rfl rfl rfl rfl ?_
      refine RunT.xn rfl rfl rfl rfl rfl rfl ?_
      refine RunT.xn rfl rfl rfl rfl rfl rfl ?_
      refine RunT.xn rfl rfl rfl rfl rfl rfl ?_
      refine RunT.xn rfl rfl rfl rfl rfl rfl ?_
      refine RunT.ot0 (x := .v (.bool false)) rfl rfl rfl rfl (.pickF rfl rfl) ?_
      refine RunT.ot0 (x := .v (.bool false)) rfl rfl rfl rfl (.assignX rfl) ?_
      refine RunT.nil ?_
      obtain rfl := si H
      refine T.sub (sub_to (st' := ⟨[(2, .v (.bool false))], [], 8, []⟩) [] (by decide) rfl rfl (⟨⟨_, rfl, .one .v⟩, trivial⟩) (trivial)) ?_
      refine T.ret ?_
      exact RetOk.same [.v (.bool false)] ⟨rfl, trivial⟩ rfl rfl rfl
  · replace H := cf H g1
    refine RunT.xn rfl rfl rfl (bo g1) rfl rfl ?_
    refine RunT.xn rfl rfl rfl (bo g1) rfl rfl ?_
    refine RunT.xn rfl rfl rfl (bo g1) rfl rfl ?_
    refine RunT.ot0 (x := .v (.bool false)) rfl rfl rfl rfl (.pickF (bo g1) rfl) ?_
    refine RunT.ot0 (x := .v (.bool false)) rfl rfl rfl rfl (.moveX rfl) ?_
    refine RunT.xn rfl rfl rfl rfl rfl rfl ?_
    refine RunT.xn rfl rfl rfl rfl rfl rfl ?_
    refine RunT.xn rfl rfl rfl rfl rfl rfl ?_
    refine RunT.ot0 (x := .v (.bool false)) rfl rfl rfl rfl (.pickF rfl rfl) ?_
    refine RunT.ot0 (x := .v (.bool false)) rfl rfl rfl rfl (.moveX rfl) ?_
    refine RunT.xn rfl rfl rfl rfl rfl rfl ?_
    refine RunT.xn rfl rfl rfl rfl rfl rfl ?_
    refine RunT.xn rfl rfl rfl rfl rfl rfl ?_
    refine RunT.ot0 (x := .v (.bool false)) rfl rfl rfl rfl (.pickF rfl rfl) ?_
    refine RunT.ot0 (x := .v (.bool false)) rfl rfl rfl rfl (.moveX rfl) ?_
    refine RunT.xn rfl rfl rfl rfl rfl rfl ?_
    refine RunT.xn rfl rfl rfl rfl rfl rfl ?_
    refine RunT.xn rfl rfl rfl rfl rfl rfl ?_
    refine RunT.xn rfl rfl rfl rfl rfl rfl ?_
    refine RunT.xn rfl rfl rfl rfl rfl rfl ?_
    refine RunT.xn rfl rfl rfl rfl rfl rfl ?_
    refine RunT.xn rfl rfl rfl rfl rfl rfl ?_
    refine RunT.xn rfl rfl rfl rfl rfl rfl ?_
    refine RunT.ot0 (x := .v (.bool false)) rfl rfl rfl rfl (.pickF rfl rfl) ?_
    refine RunT.ot0 (x := .v (.bool false)) rfl rfl rfl rfl (.assignX rfl) ?_
    refine RunT.nil ?_
    obtain rfl := si H
    refine T.sub (sub_to (st' := ⟨[(2, .v (.bool false))], [], 8, []⟩) [] (by decide) rfl rfl (⟨⟨_, rfl, .one .v⟩, trivial⟩) (trivial)) ?_
    refine T.ret ?_
    exact RetOk.same [.v (.bool false)] ⟨rfl, trivial⟩ rfl rfl rfl
set_option maxHeartbeats 4000000 in
theorem ref19_mayOrder_pc (al : Bool) (k : Nat) (a0 : Order) (o : Bool) (H : ref19_mayOrder k a0 = some o) : PC Try.prog al 54 [.agg [.v (.int .i64 a0.Id), .v (.int .i64 a0.State), .v (.int .i64 a0.Party.Size), .v (.int .i64 a0.Party.Wheels), .v (.int .i64 a0.Until), .v (.int .i64 a0.First)]] (.v (.bool o)) := by
  unfold ref19_mayOrder at H
  refine PC.of_T Try.func54 rfl rfl (n := 46) rfl rfl (.inr rfl) ?_
  intro base B w0
  refine T.st (st' := ⟨[(0, .agg [.v (.int .i64 a0.Id), .v (.int .i64 a0.State), .v (.int .i64 a0.Party.Size), .v (.int .i64 a0.Party.Wheels), .v (.int .i64 a0.Until), .v (.int .i64 a0.First)])], [], 0, []⟩) rfl ?_
  refine T.seq ?_
  refine T.region ?_
  refine RunT.ot1 (x := .ptr 0 0) (p0 := (0, some (.box [.v (.int .i64 a0.Id), .v (.int .i64 a0.State), .v (.int .i64 a0.Party.Size), .v (.int .i64 a0.Party.Wheels), .v (.int .i64 a0.Until), .v (.int .i64 a0.First)]))) (n' := 8) rfl rfl rfl rfl (.boxX rfl rfl rfl) rfl ?_
  refine RunT.ot0 (x := .v (.bool false)) rfl rfl rfl rfl (.assignX rfl) ?_
  refine RunT.nil ?_
  refine T.seq ?_
  refine T.region ?_
  refine RunT.ot0 (x := .ptr 0 0) rfl rfl rfl rfl (.fieldPX fl49_0 rfl rfl) ?_
  refine RunT.ot0 (x := .v (.int .i64 a0.Id)) rfl rfl rfl rfl (.loadP ty3 rfl rfl rfl) ?_
  refine RunT.ot0 (x := .v (.bool (decide (1 ≤ a0.Id)))) rfl rfl rfl rfl (.bin rfl rfl (fun w => b_geq w) rfl) ?_
  refine RunT.ot0 (x := .v (.bool (decide (1 ≤ a0.Id)))) rfl rfl rfl rfl (.moveX rfl) ?_
  refine RunT.cases (t := 6) (c := decide (1 ≤ a0.Id)) rfl (fun g1 => ?_) (fun g1 => ?_)
  · replace H := ct H g1
    refine RunT.gt0 (x := .ptr 0 0) rfl rfl rfl (bo g1) rfl rfl (.fieldPX fl49_0 rfl rfl) ?_
    refine RunT.gt0 (x := .v (.int .i64 a0.Id)) rfl rfl rfl (bo g1) rfl rfl (.loadP ty3 rfl rfl rfl) ?_
    refine RunT.gt0 (x := .v (.bool (decide (a0.Id ≤ 2147483647)))) rfl rfl rfl (bo g1) rfl rfl (.bin rfl rfl (fun w => b_leq w) rfl) ?_
    refine RunT.ot0 (x := .v (.bool (decide (a0.Id ≤ 2147483647)))) rfl rfl rfl rfl (.pickT (bo g1) rfl) ?_
    refine RunT.ot0 (x := .v (.bool (decide (a0.Id ≤ 2147483647)))) rfl rfl rfl rfl (.moveX rfl) ?_
    refine RunT.cases (t := 11) (c := decide (a0.Id ≤ 2147483647)) rfl (fun g2 => ?_) (fun g2 => ?_)
    · replace H := ct H g2
      refine RunT.gt0 (x := .ptr 0 1) rfl rfl rfl (bo g2) rfl rfl (.fieldPX fl49_1 rfl rfl) ?_
      refine RunT.gt0 (x := .v (.int .i64 a0.State)) rfl rfl rfl (bo g2) rfl rfl (.loadP ty3 rfl rfl rfl) ?_
      refine RunT.gt0 (x := .v (.bool (decide (1 ≤ a0.State)))) rfl rfl rfl (bo g2) rfl rfl (.bin rfl rfl (fun w => b_geq w) rfl) ?_
      refine RunT.ot0 (x := .v (.bool (decide (1 ≤ a0.State)))) rfl rfl rfl rfl (.pickT (bo g2) rfl) ?_
      refine RunT.ot0 (x := .v (.bool (decide (1 ≤ a0.State)))) rfl rfl rfl rfl (.moveX rfl) ?_
      refine RunT.cases (t := 16) (c := decide (1 ≤ a0.State)) rfl (fun g3 => ?_) (fun g3 => ?_)
      · replace H := ct H g3
        refine RunT.gt0 (x := .ptr 0 1) rfl rfl rfl (bo g3) rfl rfl (.fieldPX fl49_1 rfl rfl) ?_
        refine RunT.gt0 (x := .v (.int .i64 a0.State)) rfl rfl rfl (bo g3) rfl rfl (.loadP ty3 rfl rfl rfl) ?_
        refine RunT.gt0 (x := .v (.bool (decide (a0.State ≤ 3)))) rfl rfl rfl (bo g3) rfl rfl (.bin rfl rfl (fun w => b_leq w) rfl) ?_
        refine RunT.ot0 (x := .v (.bool (decide (a0.State ≤ 3)))) rfl rfl rfl rfl (.pickT (bo g3) rfl) ?_
        refine RunT.ot0 (x := .v (.bool (decide (a0.State ≤ 3)))) rfl rfl rfl rfl (.moveX rfl) ?_
        refine RunT.cases (t := 21) (c := decide (a0.State ≤ 3)) rfl (fun g4 => ?_) (fun g4 => ?_)
        · replace H := ct H g4
          refine RunT.gt0 (x := .ptr 0 2) rfl rfl rfl (bo g4) rfl rfl (.fieldPX fl49_2 rfl rfl) ?_
          refine RunT.gt0 (x := .agg [.v (.int .i64 a0.Party.Size), .v (.int .i64 a0.Party.Wheels)]) rfl rfl rfl (bo g4) rfl rfl (.loadP ty23 rfl rfl rfl) ?_
          obtain ⟨r5, h6, H⟩ := bs H
          refine RunT.gt0 (x := .v (.bool r5)) rfl rfl rfl (bo g4) rfl rfl (.callp (ref6_MayParty_pc false k a0.Party r5 h6) rfl ⟨(.agg' ⟨.v, .v, trivial⟩), trivial⟩ rfl rfl rfl) ?_
          refine RunT.ot0 (x := .v (.bool r5)) rfl rfl rfl rfl (.pickT (bo g4) rfl) ?_
          refine RunT.ot0 (x := .v (.bool r5)) rfl rfl rfl rfl (.moveX rfl) ?_
          refine RunT.cases (t := 26) (c := r5) rfl (fun g7 => ?_) (fun g7 => ?_)
          · replace H := ct H g7
            refine RunT.gt0 (x := .ptr 0 4) rfl rfl rfl (bo g7) rfl rfl (.fieldPX fl49_3 rfl rfl) ?_
            refine RunT.gt0 (x := .v (.int .i64 a0.Until)) rfl rfl rfl (bo g7) rfl rfl (.loadP ty2 rfl rfl rfl) ?_
            refine RunT.gt0 (x := .v (.bool (decide (0 ≤ a0.Until)))) rfl rfl rfl (bo g7) rfl rfl (.bin rfl rfl (fun w => b_geq w) rfl) ?_
            refine RunT.ot0 (x := .v (.bool (decide (0 ≤ a0.Until)))) rfl rfl rfl rfl (.pickT (bo g7) rfl) ?_
            refine RunT.ot0 (x := .v (.bool (decide (0 ≤ a0.Until)))) rfl rfl rfl rfl (.moveX rfl) ?_
            refine RunT.cases (t := 31) (c := decide (0 ≤ a0.Until)) rfl (fun g8 => ?_) (fun g8 => ?_)
            · replace H := ct H g8
              refine RunT.gt0 (x := .ptr 0 4) rfl rfl rfl (bo g8) rfl rfl (.fieldPX fl49_3 rfl rfl) ?_
              refine RunT.gt0 (x := .v (.int .i64 a0.Until)) rfl rfl rfl (bo g8) rfl rfl (.loadP ty2 rfl rfl rfl) ?_
              refine RunT.gt0 (x := .v (.bool (decide (a0.Until ≤ 1099511627776)))) rfl rfl rfl (bo g8) rfl rfl (.bin rfl rfl (fun w => b_leq w) rfl) ?_
              refine RunT.ot0 (x := .v (.bool (decide (a0.Until ≤ 1099511627776)))) rfl rfl rfl rfl (.pickT (bo g8) rfl) ?_
              refine RunT.ot0 (x := .v (.bool (decide (a0.Until ≤ 1099511627776)))) rfl rfl rfl rfl (.moveX rfl) ?_
              refine RunT.cases (t := 36) (c := decide (a0.Until ≤ 1099511627776)) rfl (fun g9 => ?_) (fun g9 => ?_)
              · replace H := ct H g9
                refine RunT.gt0 (x := .ptr 0 5) rfl rfl rfl (bo g9) rfl rfl (.fieldPX fl49_4 rfl rfl) ?_
                refine RunT.gt0 (x := .v (.int .i64 a0.First)) rfl rfl rfl (bo g9) rfl rfl (.loadP ty3 rfl rfl rfl) ?_
                refine RunT.gt0 (x := .v (.bool (decide ((-1) ≤ a0.First)))) rfl rfl rfl (bo g9) rfl rfl (.bin rfl rfl (fun w => b_geq w) rfl) ?_
                refine RunT.ot0 (x := .v (.bool (decide ((-1) ≤ a0.First)))) rfl rfl rfl rfl (.pickT (bo g9) rfl) ?_
                refine RunT.ot0 (x := .v (.bool (decide ((-1) ≤ a0.First)))) rfl rfl rfl rfl (.moveX rfl) ?_
                refine RunT.cases (t := 41) (c := decide ((-1) ≤ a0.First)) rfl (fun g10 => ?_) (fun g10 => ?_)
                · replace H := ct H g10
                  refine RunT.gt0 (x := .ptr 0 5) rfl rfl rfl (bo g10) rfl rfl (.fieldPX fl49_4 rfl rfl) ?_
                  refine RunT.gt0 (x := .v (.int .i64 a0.First)) rfl rfl rfl (bo g10) rfl rfl (.loadP ty3 rfl rfl rfl) ?_
                  refine RunT.gt0 (x := .v (.bool (decide (a0.First < 4096)))) rfl rfl rfl (bo g10) rfl rfl (.bin rfl rfl (fun w => b_lss w) rfl) ?_
                  refine RunT.ot0 (x := .v (.bool (decide (a0.First < 4096)))) rfl rfl rfl rfl (.pickT (bo g10) rfl) ?_
                  refine RunT.ot0 (x := .v (.bool (decide (a0.First < 4096)))) rfl rfl rfl rfl (.assignX rfl) ?_
                  refine RunT.nil ?_
                  obtain rfl := si H
                  refine T.sub (sub_to (st' := ⟨[(2, .v (.bool (decide (a0.First < 4096))))], [], 8, []⟩) [] (by decide) rfl rfl (⟨⟨_, rfl, .one .v⟩, trivial⟩) (trivial)) ?_
                  refine T.ret ?_
                  exact RetOk.same [.v (.bool (decide (a0.First < 4096)))] ⟨rfl, trivial⟩ rfl rfl rfl
                · replace H := cf H g10
                  refine RunT.xn rfl rfl rfl (bo g10) rfl rfl ?_
                  refine RunT.xn rfl rfl rfl (bo g10) rfl rfl ?_
                  refine RunT.xn rfl rfl rfl (bo g10) rfl rfl ?_
                  refine RunT.ot0 (x := .v (.bool false)) rfl rfl rfl rfl (.pickF (bo g10) rfl) ?_
                  refine RunT.ot0 (x := .v (.bool false)) rfl rfl rfl rfl (.assignX rfl) ?_
                  refine RunT.nil ?_
                  obtain rfl := si H
                  refine T.sub (sub_to (st' := ⟨[(2, .v (.bool false))], [], 8, []⟩) [] (by decide) rfl rfl (⟨⟨_, rfl, .one .v⟩, trivial⟩) (trivial)) ?_
                  refine T.ret ?_
                  exact RetOk.same [.v (.bool false)] ⟨rfl, trivial⟩ rfl rfl rfl
              · replace H := cf H g9
                refine RunT.xn rfl rfl rfl (bo g9) rfl rfl ?_
                refine RunT.xn rfl rfl rfl (bo g9) rfl rfl ?_
                refine RunT.xn rfl rfl rfl (bo g9) rfl rfl ?_
                refine RunT.ot0 (x := .v (.bool false)) rfl rfl rfl rfl (.pickF (bo g9) rfl) ?_
                refine RunT.ot0 (x := .v (.bool false)) rfl rfl rfl rfl (.moveX rfl) ?_
                refine RunT.xn rfl rfl rfl rfl rfl rfl ?_
                refine RunT.xn rfl rfl rfl rfl rfl rfl ?_
                refine RunT.xn rfl rfl rfl rfl rfl rfl ?_
                refine RunT.ot0 (x := .v (.bool false)) rfl rfl rfl rfl (.pickF rfl rfl) ?_
                refine RunT.ot0 (x := .v (.bool false)) rfl rfl rfl rfl (.assignX rfl) ?_
                refine RunT.nil ?_
                obtain rfl := si H
                refine T.sub (sub_to (st' := ⟨[(2, .v (.bool false))], [], 8, []⟩) [] (by decide) rfl rfl (⟨⟨_, rfl, .one .v⟩, trivial⟩) (trivial)) ?_
                refine T.ret ?_
                exact RetOk.same [.v (.bool false)] ⟨rfl, trivial⟩ rfl rfl rfl
            · replace H := cf H g8
              refine RunT.xn rfl rfl rfl (bo g8) rfl rfl ?_
              refine RunT.xn rfl rfl rfl (bo g8) rfl rfl ?_
              refine RunT.xn rfl rfl rfl (bo g8) rfl rfl ?_
              refine RunT.ot0 (x := .v (.bool false)) rfl rfl rfl rfl (.pickF (bo g8) rfl) ?_
              refine RunT.ot0 (x := .v (.bool false)) rfl rfl rfl rfl (.moveX rfl) ?_
              refine RunT.xn rfl rfl rfl rfl rfl rfl ?_
              refine RunT.xn rfl rfl rfl rfl rfl rfl ?_
              refine RunT.xn rfl rfl rfl rfl rfl rfl ?_
              refine RunT.ot0 (x := .v (.bool false)) rfl rfl rfl rfl (.pickF rfl rfl) ?_
              refine RunT.ot0 (x := .v (.bool false)) rfl rfl rfl rfl (.moveX rfl) ?_
              refine RunT.xn rfl rfl rfl rfl rfl rfl ?_
              refine RunT.xn rfl rfl rfl rfl rfl rfl ?_
              refine RunT.xn rfl rfl rfl rfl rfl rfl ?_
              refine RunT.ot0 (x := .v (.bool false)) rfl rfl rfl rfl (.pickF rfl rfl) ?_
              refine RunT.ot0 (x := .v (.bool false)) rfl rfl rfl rfl (.assignX rfl) ?_
              refine RunT.nil ?_
              obtain rfl := si H
              refine T.sub (sub_to (st' := ⟨[(2, .v (.bool false))], [], 8, []⟩) [] (by decide) rfl rfl (⟨⟨_, rfl, .one .v⟩, trivial⟩) (trivial)) ?_
              refine T.ret ?_
              exact RetOk.same [.v (.bool false)] ⟨rfl, trivial⟩ rfl rfl rfl
          · replace H := cf H g7
            refine RunT.xn rfl rfl rfl (bo g7) rfl rfl ?_
            refine RunT.xn rfl rfl rfl (bo g7) rfl rfl ?_
            refine RunT.xn rfl rfl rfl (bo g7) rfl rfl ?_
            refine RunT.ot0 (x := .v (.bool false)) rfl rfl rfl rfl (.pickF (bo g7) rfl) ?_
            refine RunT.ot0 (x := .v (.bool false)) rfl rfl rfl rfl (.moveX rfl) ?_
            refine RunT.xn rfl rfl rfl rfl rfl rfl ?_
            refine RunT.xn rfl rfl rfl rfl rfl rfl ?_
            refine RunT.xn rfl rfl rfl rfl rfl rfl ?_
            refine RunT.ot0 (x := .v (.bool false)) rfl rfl rfl rfl (.pickF rfl rfl) ?_
            refine RunT.ot0 (x := .v (.bool false)) rfl rfl rfl rfl (.moveX rfl) ?_
            refine RunT.xn rfl rfl rfl rfl rfl rfl ?_
            refine RunT.xn rfl rfl rfl rfl rfl rfl ?_
            refine RunT.xn rfl rfl rfl rfl rfl rfl ?_
            refine RunT.ot0 (x := .v (.bool false)) rfl rfl rfl rfl (.pickF rfl rfl) ?_
            refine RunT.ot0 (x := .v (.bool false)) rfl rfl rfl rfl (.moveX rfl) ?_
            refine RunT.xn rfl rfl rfl rfl rfl rfl ?_
            refine RunT.xn rfl rfl rfl rfl rfl rfl ?_
            refine RunT.xn rfl rfl rfl rfl rfl rfl ?_
            refine RunT.ot0 (x := .v (.bool false)) rfl rfl rfl rfl (.pickF rfl rfl) ?_
            refine RunT.ot0 (x := .v (.bool false)) rfl rfl rfl rfl (.assignX rfl) ?_
            refine RunT.nil ?_
            obtain rfl := si H
            refine T.sub (sub_to (st' := ⟨[(2, .v (.bool false))], [], 8, []⟩) [] (by decide) rfl rfl (⟨⟨_, rfl, .one .v⟩, trivial⟩) (trivial)) ?_
            refine T.ret ?_
            exact RetOk.same [.v (.bool false)] ⟨rfl, trivial⟩ rfl rfl rfl
        · replace H := cf H g4
          refine RunT.xn rfl rfl rfl (bo g4) rfl rfl ?_
          refine RunT.xn rfl rfl rfl (bo g4) rfl rfl ?_
          refine RunT.xn rfl rfl rfl (bo g4) rfl rfl ?_
          refine RunT.ot0 (x := .v (.bool false)) rfl rfl rfl rfl (.pickF (bo g4) rfl) ?_
          refine RunT.ot0 (x := .v (.bool false)) rfl rfl rfl rfl (.moveX rfl) ?_
          refine RunT.xn rfl rfl rfl rfl rfl rfl ?_
          refine RunT.xn rfl rfl rfl rfl rfl rfl ?_
          refine RunT.xn rfl rfl rfl rfl rfl rfl ?_
          refine RunT.ot0 (x := .v (.bool false)) rfl rfl rfl rfl (.pickF rfl rfl) ?_
          refine RunT.ot0 (x := .v (.bool false)) rfl rfl rfl rfl (.moveX rfl) ?_
          refine RunT.xn rfl rfl rfl rfl rfl rfl ?_
          refine RunT.xn rfl rfl rfl rfl rfl rfl ?_
          refine RunT.xn rfl rfl rfl rfl rfl rfl ?_
          refine RunT.ot0 (x := .v (.bool false)) rfl rfl rfl rfl (.pickF rfl rfl) ?_
          refine RunT.ot0 (x := .v (.bool false)) rfl rfl rfl rfl (.moveX rfl) ?_
          refine RunT.xn rfl rfl rfl rfl rfl rfl ?_
          refine RunT.xn rfl rfl rfl rfl rfl rfl ?_
          refine RunT.xn rfl rfl rfl rfl rfl rfl ?_
          refine RunT.ot0 (x := .v (.bool false)) rfl rfl rfl rfl (.pickF rfl rfl) ?_
          refine RunT.ot0 (x := .v (.bool false)) rfl rfl rfl rfl (.moveX rfl) ?_
          refine RunT.xn rfl rfl rfl rfl rfl rfl ?_
          refine RunT.xn rfl rfl rfl rfl rfl rfl ?_
          refine RunT.xn rfl rfl rfl rfl rfl rfl ?_
          refine RunT.ot0 (x := .v (.bool false)) rfl rfl rfl rfl (.pickF rfl rfl) ?_
          refine RunT.ot0 (x := .v (.bool false)) rfl rfl rfl rfl (.assignX rfl) ?_
          refine RunT.nil ?_
          obtain rfl := si H
          refine T.sub (sub_to (st' := ⟨[(2, .v (.bool false))], [], 8, []⟩) [] (by decide) rfl rfl (⟨⟨_, rfl, .one .v⟩, trivial⟩) (trivial)) ?_
          refine T.ret ?_
          exact RetOk.same [.v (.bool false)] ⟨rfl, trivial⟩ rfl rfl rfl
      · replace H := cf H g3
        refine RunT.xn rfl rfl rfl (bo g3) rfl rfl ?_
        refine RunT.xn rfl rfl rfl (bo g3) rfl rfl ?_
        refine RunT.xn rfl rfl rfl (bo g3) rfl rfl ?_
        refine RunT.ot0 (x := .v (.bool false)) rfl rfl rfl rfl (.pickF (bo g3) rfl) ?_
        refine RunT.ot0 (x := .v (.bool false)) rfl rfl rfl rfl (.moveX rfl) ?_
        refine RunT.xn rfl rfl rfl rfl rfl rfl ?_
        refine RunT.xn rfl rfl rfl rfl rfl rfl ?_
        refine RunT.xn rfl rfl rfl rfl rfl rfl ?_
        refine RunT.ot0 (x := .v (.bool false)) rfl rfl rfl rfl (.pickF rfl rfl) ?_
        refine RunT.ot0 (x := .v (.bool false)) rfl rfl rfl rfl (.moveX rfl) ?_
        refine RunT.xn rfl rfl rfl rfl rfl rfl ?_
        refine RunT.xn rfl rfl rfl rfl rfl rfl ?_
        refine RunT.xn rfl rfl rfl rfl rfl rfl ?_
        refine RunT.ot0 (x := .v (.bool false)) rfl rfl rfl rfl (.pickF rfl rfl) ?_
        refine RunT.ot0 (x := .v (.bool false)) rfl rfl rfl rfl (.moveX rfl) ?_
        refine RunT.xn rfl rfl rfl rfl rfl rfl ?_
        refine RunT.xn rfl rfl rfl rfl rfl rfl ?_
        refine RunT.xn rfl rfl rfl rfl rfl rfl ?_
        refine RunT.ot0 (x := .v (.bool false)) rfl rfl rfl rfl (.pickF rfl rfl) ?_
        refine RunT.ot0 (x := .v (.bool false)) rfl rfl rfl rfl (.moveX rfl) ?_
        refine RunT.xn rfl rfl rfl rfl rfl rfl ?_
        refine RunT.xn rfl rfl rfl rfl rfl rfl ?_
        refine RunT.xn rfl rfl rfl rfl rfl rfl ?_
        refine RunT.ot0 (x := .v (.bool false)) rfl rfl rfl rfl (.pickF rfl rfl) ?_
        refine RunT.ot0 (x := .v (.bool false)) rfl rfl rfl rfl (.moveX rfl) ?_
        refine RunT.xn rfl rfl rfl rfl rfl rfl ?_
        refine RunT.xn rfl rfl rfl rfl rfl rfl ?_
        refine RunT.xn rfl rfl rfl rfl rfl rfl ?_
        refine RunT.ot0 (x := .v (.bool false)) rfl rfl rfl rfl (.pickF rfl rfl) ?_
        refine RunT.ot0 (x := .v (.bool false)) rfl rfl rfl rfl (.assignX rfl) ?_
        refine RunT.nil ?_
        obtain rfl := si H
        refine T.sub (sub_to (st' := ⟨[(2, .v (.bool false))], [], 8, []⟩) [] (by decide) rfl rfl (⟨⟨_, rfl, .one .v⟩, trivial⟩) (trivial)) ?_
        refine T.ret ?_
        exact RetOk.same [.v (.bool false)] ⟨rfl, trivial⟩ rfl rfl rfl
    · replace H := cf H g2
      refine RunT.xn rfl rfl rfl (bo g2) rfl rfl ?_
      refine RunT.xn rfl rfl rfl (bo g2) rfl rfl ?_
      refine RunT.xn rfl rfl rfl (bo g2) rfl rfl ?_
      refine RunT.ot0 (x := .v (.bool false)) rfl rfl rfl rfl (.pickF (bo g2) rfl) ?_
      refine RunT.ot0 (x := .v (.bool false)) rfl rfl rfl rfl (.moveX rfl) ?_
      refine RunT.xn rfl rfl rfl rfl rfl rfl ?_
      refine RunT.xn rfl rfl rfl rfl rfl rfl ?_
      refine RunT.xn rfl rfl rfl rfl rfl rfl ?_
      refine RunT.ot0 (x := .v (.bool false)) rfl rfl rfl rfl (.pickF rfl rfl) ?_
      refine RunT.ot0 (x := .v (.bool false)) rfl rfl rfl rfl (.moveX rfl) ?_
      refine RunT.xn rfl rfl rfl rfl rfl rfl ?_
      refine RunT.xn rfl rfl rfl rfl rfl rfl ?_
      refine RunT.xn rfl rfl rfl rfl rfl rfl ?_
      refine RunT.ot0 (x := .v (.bool false)) rfl rfl rfl rfl (.pickF rfl rfl) ?_
      refine RunT.ot0 (x := .v (.bool false)) rfl rfl rfl rfl (.moveX rfl) ?_
      refine RunT.xn rfl rfl rfl rfl rfl rfl ?_
      refine RunT.xn rfl rfl rfl rfl rfl rfl ?_
      refine RunT.xn rfl rfl rfl rfl rfl rfl ?_
      refine RunT.ot0 (x := .v (.bool false)) rfl rfl rfl rfl (.pickF rfl rfl) ?_
      refine RunT.ot0 (x := .v (.bool false)) rfl rfl rfl rfl (.moveX rfl) ?_
      refine RunT.xn rfl rfl rfl rfl rfl rfl ?_
      refine RunT.xn rfl rfl rfl rfl rfl rfl ?_
      refine RunT.xn rfl rfl rfl rfl rfl rfl ?_
      refine RunT.ot0 (x := .v (.bool false)) rfl rfl rfl rfl (.pickF rfl rfl) ?_
      refine RunT.ot0 (x := .v (.bool false)) rfl rfl rfl rfl (.moveX rfl) ?_
      refine RunT.xn rfl rfl rfl rfl rfl rfl ?_
      refine RunT.xn rfl rfl rfl rfl rfl rfl ?_
      refine RunT.xn rfl rfl rfl rfl rfl rfl ?_
      refine RunT.ot0 (x := .v (.bool false)) rfl rfl rfl rfl (.pickF rfl rfl) ?_
      refine RunT.ot0 (x := .v (.bool false)) rfl rfl rfl rfl (.moveX rfl) ?_
      refine RunT.xn rfl rfl rfl rfl rfl rfl ?_
      refine RunT.xn rfl rfl rfl rfl rfl rfl ?_
      refine RunT.xn rfl rfl rfl rfl rfl rfl ?_
      refine RunT.ot0 (x := .v (.bool false)) rfl rfl rfl rfl (.pickF rfl rfl) ?_
      refine RunT.ot0 (x := .v (.bool false)) rfl rfl rfl rfl (.assignX rfl) ?_
      refine RunT.nil ?_
      obtain rfl := si H
      refine T.sub (sub_to (st' := ⟨[(2, .v (.bool false))], [], 8, []⟩) [] (by decide) rfl rfl (⟨⟨_, rfl, .one .v⟩, trivial⟩) (trivial)) ?_
      refine T.ret ?_
      exact RetOk.same [.v (.bool false)] ⟨rfl, trivial⟩ rfl rfl rfl
  · replace H := cf H g1
    refine RunT.xn rfl rfl rfl (bo g1) rfl rfl ?_
    refine RunT.xn rfl rfl rfl (bo g1) rfl rfl ?_
    refine RunT.xn rfl rfl rfl (bo g1) rfl rfl ?_
    refine RunT.ot0 (x := .v (.bool false)) rfl rfl rfl rfl (.pickF (bo g1) rfl) ?_
    refine RunT.ot0 (x := .v (.bool false)) rfl rfl rfl rfl (.moveX rfl) ?_
    refine RunT.xn rfl rfl rfl rfl rfl rfl ?_
    refine RunT.xn rfl rfl rfl rfl rfl rfl ?_
    refine RunT.xn rfl rfl rfl rfl rfl rfl ?_
    refine RunT.ot0 (x := .v (.bool false)) rfl rfl rfl rfl (.pickF rfl rfl) ?_
    refine RunT.ot0 (x := .v (.bool false)) rfl rfl rfl rfl (.moveX rfl) ?_
    refine RunT.xn rfl rfl rfl rfl rfl rfl ?_
    refine RunT.xn rfl rfl rfl rfl rfl rfl ?_
    refine RunT.xn rfl rfl rfl rfl rfl rfl ?_
    refine RunT.ot0 (x := .v (.bool false)) rfl rfl rfl rfl (.pickF rfl rfl) ?_
    refine RunT.ot0 (x := .v (.bool false)) rfl rfl rfl rfl (.moveX rfl) ?_
    refine RunT.xn rfl rfl rfl rfl rfl rfl ?_
    refine RunT.xn rfl rfl rfl rfl rfl rfl ?_
    refine RunT.xn rfl rfl rfl rfl rfl rfl ?_
    refine RunT.ot0 (x := .v (.bool false)) rfl rfl rfl rfl (.pickF rfl rfl) ?_
    refine RunT.ot0 (x := .v (.bool false)) rfl rfl rfl rfl (.moveX rfl) ?_
    refine RunT.xn rfl rfl rfl rfl rfl rfl ?_
    refine RunT.xn rfl rfl rfl rfl rfl rfl ?_
    refine RunT.xn rfl rfl rfl rfl rfl rfl ?_
    refine RunT.ot0 (x := .v (.bool false)) rfl rfl rfl rfl (.pickF rfl rfl) ?_
    refine RunT.ot0 (x := .v (.bool false)) rfl rfl rfl rfl (.moveX rfl) ?_
    refine RunT.xn rfl rfl rfl rfl rfl rfl ?_
    refine RunT.xn rfl rfl rfl rfl rfl rfl ?_
    refine RunT.xn rfl rfl rfl rfl rfl rfl ?_
    refine RunT.ot0 (x := .v (.bool false)) rfl rfl rfl rfl (.pickF rfl rfl) ?_
    refine RunT.ot0 (x := .v (.bool false)) rfl rfl rfl rfl (.moveX rfl) ?_
    refine RunT.xn rfl rfl rfl rfl rfl rfl ?_
    refine RunT.xn rfl rfl rfl rfl rfl rfl ?_
    refine RunT.xn rfl rfl rfl rfl rfl rfl ?_
    refine RunT.ot0 (x := .v (.bool false)) rfl rfl rfl rfl (.pickF rfl rfl) ?_
    refine RunT.ot0 (x := .v (.bool false)) rfl rfl rfl rfl (.moveX rfl) ?_
    refine RunT.xn rfl rfl rfl rfl rfl rfl ?_
    refine RunT.xn rfl rfl rfl rfl rfl rfl ?_
    refine RunT.xn rfl rfl rfl rfl rfl rfl ?_
    refine RunT.ot0 (x := .v (.bool false)) rfl rfl rfl rfl (.pickF rfl rfl) ?_
    refine RunT.ot0 (x := .v (.bool false)) rfl rfl rfl rfl (.assignX rfl) ?_
    refine RunT.nil ?_
    obtain rfl := si H
    refine T.sub (sub_to (st' := ⟨[(2, .v (.bool false))], [], 8, []⟩) [] (by decide) rfl rfl (⟨⟨_, rfl, .one .v⟩, trivial⟩) (trivial)) ?_
    refine T.ret ?_
    exact RetOk.same [.v (.bool false)] ⟨rfl, trivial⟩ rfl rfl rfl
set_option maxHeartbeats 4000000 in
theorem ref19_MayRecord_pc (al : Bool) (k : Nat) (a0 : Record) (o : Bool) (H : ref19_MayRecord k a0 = some o) : PC Try.prog al 38 [.agg [.v (.int .i64 a0.Kind), .v (.string a0.Text), .v (.int .i64 a0.Order.Id), .v (.int .i64 a0.Order.State), .v (.int .i64 a0.Order.Party.Size), .v (.int .i64 a0.Order.Party.Wheels), .v (.int .i64 a0.Order.Until), .v (.int .i64 a0.Order.First), .v (.int .i64 a0.Time)]] (.v (.bool o)) := by
  unfold ref19_MayRecord at H
  refine PC.of_T Try.func38 rfl rfl (n := 63) rfl rfl (.inr rfl) ?_
  intro base B w0
  refine T.st (st' := ⟨[(0, .agg [.v (.int .i64 a0.Kind), .v (.string a0.Text), .v (.int .i64 a0.Order.Id), .v (.int .i64 a0.Order.State), .v (.int .i64 a0.Order.Party.Size), .v (.int .i64 a0.Order.Party.Wheels), .v (.int .i64 a0.Order.Until), .v (.int .i64 a0.Order.First), .v (.int .i64 a0.Time)])], [], 0, []⟩) rfl ?_
  refine T.seq ?_
  refine T.region ?_
  refine RunT.ot1 (x := .ptr 0 0) (p0 := (0, some (.box [.v (.int .i64 a0.Kind), .v (.string a0.Text), .v (.int .i64 a0.Order.Id), .v (.int .i64 a0.Order.State), .v (.int .i64 a0.Order.Party.Size), .v (.int .i64 a0.Order.Party.Wheels), .v (.int .i64 a0.Order.Until), .v (.int .i64 a0.Order.First), .v (.int .i64 a0.Time)]))) (n' := 8) rfl rfl rfl rfl (.boxX rfl rfl rfl) rfl ?_
  refine RunT.ot0 (x := .v (.bool false)) rfl rfl rfl rfl (.assignX rfl) ?_
  refine RunT.nil ?_
  refine T.seq ?_
  refine T.seq ?_
  refine T.region ?_
  refine RunT.ot0 (x := .ptr 0 0) rfl rfl rfl rfl (.fieldPX fl51_0 rfl rfl) ?_
  refine RunT.ot0 (x := .v (.int .i64 a0.Kind)) rfl rfl rfl rfl (.loadP ty3 rfl rfl rfl) ?_
  refine RunT.nil ?_
  refine T.block ?_
  refine T.seq ?_
  refine T.region ?_
  refine RunT.ot0 (x := .v (.bool (decide (a0.Kind = 1)))) rfl rfl rfl rfl (.bin rfl rfl (fun w => b_eql w) rfl) ?_
  refine RunT.ot0 (x := .v (.bool (decide (a0.Kind = 1)))) rfl rfl rfl rfl (.assignX rfl) ?_
  refine RunT.nil ?_
  refine T.cond2 (t := decide (a0.Kind = 1)) rfl (fun c1 => ?_) (fun c1 => ?_)
  · replace H := ct H c1
    refine T.seq ?_
    refine T.region ?_
    refine RunT.ot0 (x := .ptr 0 1) rfl rfl rfl rfl (.fieldPX fl51_1 rfl rfl) ?_
    refine RunT.ot0 (x := .v (.string a0.Text)) rfl rfl rfl rfl (.loadP ty9 rfl rfl rfl) ?_
    refine RunT.ot0 (x := .v (.int .i64 (a0.Text.size : Int))) rfl rfl rfl rfl (.lenV rfl (fun _ w => len_str rfl Try.underlying9 w) rfl) ?_
    refine RunT.ot0 (x := .v (.bool (decide ((a0.Text.size : Int) ≤ 1048576)))) rfl rfl rfl rfl (.bin rfl rfl (fun w => b_leq w) rfl) ?_
    refine RunT.ot0 (x := .v (.bool (decide ((a0.Text.size : Int) ≤ 1048576)))) rfl rfl rfl rfl (.moveX rfl) ?_
    refine RunT.cases (t := 11) (c := decide ((a0.Text.size : Int) ≤ 1048576)) rfl (fun g2 => ?_) (fun g2 => ?_)
    · replace H := ct H g2
      refine RunT.gt0 (x := .ptr 0 2) rfl rfl rfl (bo g2) rfl rfl (.fieldPX fl51_2 rfl rfl) ?_
      refine RunT.gt0 (x := .agg [.v (.int .i64 a0.Order.Id), .v (.int .i64 a0.Order.State), .v (.int .i64 a0.Order.Party.Size), .v (.int .i64 a0.Order.Party.Wheels), .v (.int .i64 a0.Order.Until), .v (.int .i64 a0.Order.First)]) rfl rfl rfl (bo g2) rfl rfl (.loadP ty49 rfl rfl rfl) ?_
      refine RunT.gt0 (x := .agg [.v (.int .i64 0), .v (.int .i64 0), .v (.int .i64 0), .v (.int .i64 0), .v (.int .i64 0), .v (.int .i64 0)]) rfl rfl rfl (bo g2) rfl rfl (.bu bu49 rfl) ?_
      refine RunT.gt0 (x := .v (.bool (decide (a0.Order = Order.mk 0 0 (Party.mk 0 0) 0 0)))) rfl rfl rfl (bo g2) rfl rfl (.binA (us := us_Order (a0.Order)) (vs := us_Order (Order.mk 0 0 (Party.mk 0 0) 0 0)) rfl rfl (fun w => eq_Order (a0.Order) (Order.mk 0 0 (Party.mk 0 0) 0 0) w) rfl) ?_
      refine RunT.ot0 (x := .v (.bool (decide (a0.Order = Order.mk 0 0 (Party.mk 0 0) 0 0)))) rfl rfl rfl rfl (.pickT (bo g2) rfl) ?_
      refine RunT.ot0 (x := .v (.bool (decide (a0.Order = Order.mk 0 0 (Party.mk 0 0) 0 0)))) rfl rfl rfl rfl (.moveX rfl) ?_
      refine RunT.cases (t := 17) (c := decide (a0.Order = Order.mk 0 0 (Party.mk 0 0) 0 0)) rfl (fun g3 => ?_) (fun g3 => ?_)
      · replace H := ct H g3
        refine RunT.gt0 (x := .ptr 0 8) rfl rfl rfl (bo g3) rfl rfl (.fieldPX fl51_3 rfl rfl) ?_
        refine RunT.gt0 (x := .v (.int .i64 a0.Time)) rfl rfl rfl (bo g3) rfl rfl (.loadP ty2 rfl rfl rfl) ?_
        refine RunT.gt0 (x := .v (.bool (decide (a0.Time = 0)))) rfl rfl rfl (bo g3) rfl rfl (.bin rfl rfl (fun w => b_eql w) rfl) ?_
        refine RunT.ot0 (x := .v (.bool (decide (a0.Time = 0)))) rfl rfl rfl rfl (.pickT (bo g3) rfl) ?_
        refine RunT.ot0 (x := .v (.bool (decide (a0.Time = 0)))) rfl rfl rfl rfl (.assignX rfl) ?_
        refine RunT.nil ?_
        obtain rfl := si H
        refine T.sub (sub_to (st' := ⟨[(2, .v (.bool (decide (a0.Time = 0))))], [], 8, []⟩) [] (by decide) rfl rfl (⟨⟨_, rfl, .one .v⟩, trivial⟩) (trivial)) ?_
        refine T.ret ?_
        exact RetOk.same [.v (.bool (decide (a0.Time = 0)))] ⟨rfl, trivial⟩ rfl rfl rfl
      · replace H := cf H g3
        refine RunT.xn rfl rfl rfl (bo g3) rfl rfl ?_
        refine RunT.xn rfl rfl rfl (bo g3) rfl rfl ?_
        refine RunT.xn rfl rfl rfl (bo g3) rfl rfl ?_
        refine RunT.ot0 (x := .v (.bool false)) rfl rfl rfl rfl (.pickF (bo g3) rfl) ?_
        refine RunT.ot0 (x := .v (.bool false)) rfl rfl rfl rfl (.assignX rfl) ?_
        refine RunT.nil ?_
        obtain rfl := si H
        refine T.sub (sub_to (st' := ⟨[(2, .v (.bool false))], [], 8, []⟩) [] (by decide) rfl rfl (⟨⟨_, rfl, .one .v⟩, trivial⟩) (trivial)) ?_
        refine T.ret ?_
        exact RetOk.same [.v (.bool false)] ⟨rfl, trivial⟩ rfl rfl rfl
    · replace H := cf H g2
      refine RunT.xn rfl rfl rfl (bo g2) rfl rfl ?_
      refine RunT.xn rfl rfl rfl (bo g2) rfl rfl ?_
      refine RunT.xn rfl rfl rfl (bo g2) rfl rfl ?_
      refine RunT.xn rfl rfl rfl (bo g2) rfl rfl ?_
      refine RunT.ot0 (x := .v (.bool false)) rfl rfl rfl rfl (.pickF (bo g2) rfl) ?_
      refine RunT.ot0 (x := .v (.bool false)) rfl rfl rfl rfl (.moveX rfl) ?_
      refine RunT.xn rfl rfl rfl rfl rfl rfl ?_
      refine RunT.xn rfl rfl rfl rfl rfl rfl ?_
      refine RunT.xn rfl rfl rfl rfl rfl rfl ?_
      refine RunT.ot0 (x := .v (.bool false)) rfl rfl rfl rfl (.pickF rfl rfl) ?_
      refine RunT.ot0 (x := .v (.bool false)) rfl rfl rfl rfl (.assignX rfl) ?_
      refine RunT.nil ?_
      obtain rfl := si H
      refine T.sub (sub_to (st' := ⟨[(2, .v (.bool false))], [], 8, []⟩) [] (by decide) rfl rfl (⟨⟨_, rfl, .one .v⟩, trivial⟩) (trivial)) ?_
      refine T.ret ?_
      exact RetOk.same [.v (.bool false)] ⟨rfl, trivial⟩ rfl rfl rfl
  · replace H := cf H c1
    refine T.seq ?_
    refine T.sub (sub_pick [1, 4] [0] (st' := ⟨[(1, .ptr 0 0), (4, .v (.int .i64 a0.Kind))], [(0, some (.box [.v (.int .i64 a0.Kind), .v (.string a0.Text), .v (.int .i64 a0.Order.Id), .v (.int .i64 a0.Order.State), .v (.int .i64 a0.Order.Party.Size), .v (.int .i64 a0.Order.Party.Wheels), .v (.int .i64 a0.Order.Until), .v (.int .i64 a0.Order.First), .v (.int .i64 a0.Time)]))], 8, []⟩) rfl rfl rfl rfl rfl) ?_
    refine T.region ?_
    refine RunT.ot0 (x := .v (.bool (decide (a0.Kind = 2)))) rfl rfl rfl rfl (.bin rfl rfl (fun w => b_eql w) rfl) ?_
    refine RunT.ot0 (x := .v (.bool (decide (a0.Kind = 2)))) rfl rfl rfl rfl (.assignX rfl) ?_
    refine RunT.nil ?_
    refine T.cond2 (t := decide (a0.Kind = 2)) rfl (fun c4 => ?_) (fun c4 => ?_)
    · replace H := ct H c4
      refine T.seq ?_
      refine T.region ?_
      refine RunT.ot0 (x := .ptr 0 1) rfl rfl rfl rfl (.fieldPX fl51_1 rfl rfl) ?_
      refine RunT.ot0 (x := .v (.string a0.Text)) rfl rfl rfl rfl (.loadP ty9 rfl rfl rfl) ?_
      refine RunT.ot0 (x := .v (.bool (a0.Text == (⟨#[]⟩ : ByteArray)))) rfl rfl rfl rfl (.bin rfl rfl (fun w => eqStr w) rfl) ?_
      refine RunT.ot0 (x := .v (.bool (a0.Text == (⟨#[]⟩ : ByteArray)))) rfl rfl rfl rfl (.moveX rfl) ?_
      refine RunT.cases (t := 27) (c := a0.Text == (⟨#[]⟩ : ByteArray)) rfl (fun g5 => ?_) (fun g5 => ?_)
      · replace H := ct H g5
        refine RunT.gt0 (x := .ptr 0 2) rfl rfl rfl (bo g5) rfl rfl (.fieldPX fl51_2 rfl rfl) ?_
        refine RunT.gt0 (x := .agg [.v (.int .i64 a0.Order.Id), .v (.int .i64 a0.Order.State), .v (.int .i64 a0.Order.Party.Size), .v (.int .i64 a0.Order.Party.Wheels), .v (.int .i64 a0.Order.Until), .v (.int .i64 a0.Order.First)]) rfl rfl rfl (bo g5) rfl rfl (.loadP ty49 rfl rfl rfl) ?_
        obtain ⟨r6, h7, H⟩ := bs H
        refine RunT.gt0 (x := .v (.bool r6)) rfl rfl rfl (bo g5) rfl rfl (.callp (ref19_mayOrder_pc false k a0.Order r6 h7) rfl ⟨(.agg' ⟨.v, .v, .v, .v, .v, .v, trivial⟩), trivial⟩ rfl rfl rfl) ?_
        refine RunT.ot0 (x := .v (.bool r6)) rfl rfl rfl rfl (.pickT (bo g5) rfl) ?_
        refine RunT.ot0 (x := .v (.bool r6)) rfl rfl rfl rfl (.moveX rfl) ?_
        refine RunT.cases (t := 32) (c := r6) rfl (fun g8 => ?_) (fun g8 => ?_)
        · replace H := ct H g8
          refine RunT.gt0 (x := .ptr 0 8) rfl rfl rfl (bo g8) rfl rfl (.fieldPX fl51_3 rfl rfl) ?_
          refine RunT.gt0 (x := .v (.int .i64 a0.Time)) rfl rfl rfl (bo g8) rfl rfl (.loadP ty2 rfl rfl rfl) ?_
          refine RunT.gt0 (x := .v (.bool (decide (a0.Time = 0)))) rfl rfl rfl (bo g8) rfl rfl (.bin rfl rfl (fun w => b_eql w) rfl) ?_
          refine RunT.ot0 (x := .v (.bool (decide (a0.Time = 0)))) rfl rfl rfl rfl (.pickT (bo g8) rfl) ?_
          refine RunT.ot0 (x := .v (.bool (decide (a0.Time = 0)))) rfl rfl rfl rfl (.assignX rfl) ?_
          refine RunT.nil ?_
          obtain rfl := si H
          refine T.sub (sub_to (st' := ⟨[(2, .v (.bool (decide (a0.Time = 0))))], [], 8, []⟩) [] (by decide) rfl rfl (⟨⟨_, rfl, .one .v⟩, trivial⟩) (trivial)) ?_
          refine T.ret ?_
          exact RetOk.same [.v (.bool (decide (a0.Time = 0)))] ⟨rfl, trivial⟩ rfl rfl rfl
        · replace H := cf H g8
          refine RunT.xn rfl rfl rfl (bo g8) rfl rfl ?_
          refine RunT.xn rfl rfl rfl (bo g8) rfl rfl ?_
          refine RunT.xn rfl rfl rfl (bo g8) rfl rfl ?_
          refine RunT.ot0 (x := .v (.bool false)) rfl rfl rfl rfl (.pickF (bo g8) rfl) ?_
          refine RunT.ot0 (x := .v (.bool false)) rfl rfl rfl rfl (.assignX rfl) ?_
          refine RunT.nil ?_
          obtain rfl := si H
          refine T.sub (sub_to (st' := ⟨[(2, .v (.bool false))], [], 8, []⟩) [] (by decide) rfl rfl (⟨⟨_, rfl, .one .v⟩, trivial⟩) (trivial)) ?_
          refine T.ret ?_
          exact RetOk.same [.v (.bool false)] ⟨rfl, trivial⟩ rfl rfl rfl
      · replace H := cf H g5
        refine RunT.xn rfl rfl rfl (bo g5) rfl rfl ?_
        refine RunT.xn rfl rfl rfl (bo g5) rfl rfl ?_
        refine RunT.xn rfl rfl rfl (bo g5) rfl rfl ?_
        refine RunT.ot0 (x := .v (.bool false)) rfl rfl rfl rfl (.pickF (bo g5) rfl) ?_
        refine RunT.ot0 (x := .v (.bool false)) rfl rfl rfl rfl (.moveX rfl) ?_
        refine RunT.xn rfl rfl rfl rfl rfl rfl ?_
        refine RunT.xn rfl rfl rfl rfl rfl rfl ?_
        refine RunT.xn rfl rfl rfl rfl rfl rfl ?_
        refine RunT.ot0 (x := .v (.bool false)) rfl rfl rfl rfl (.pickF rfl rfl) ?_
        refine RunT.ot0 (x := .v (.bool false)) rfl rfl rfl rfl (.assignX rfl) ?_
        refine RunT.nil ?_
        obtain rfl := si H
        refine T.sub (sub_to (st' := ⟨[(2, .v (.bool false))], [], 8, []⟩) [] (by decide) rfl rfl (⟨⟨_, rfl, .one .v⟩, trivial⟩) (trivial)) ?_
        refine T.ret ?_
        exact RetOk.same [.v (.bool false)] ⟨rfl, trivial⟩ rfl rfl rfl
    · replace H := cf H c4
      refine T.seq ?_
      refine T.sub (sub_pick [1, 4] [0] (st' := ⟨[(1, .ptr 0 0), (4, .v (.int .i64 a0.Kind))], [(0, some (.box [.v (.int .i64 a0.Kind), .v (.string a0.Text), .v (.int .i64 a0.Order.Id), .v (.int .i64 a0.Order.State), .v (.int .i64 a0.Order.Party.Size), .v (.int .i64 a0.Order.Party.Wheels), .v (.int .i64 a0.Order.Until), .v (.int .i64 a0.Order.First), .v (.int .i64 a0.Time)]))], 8, []⟩) rfl rfl rfl rfl rfl) ?_
      refine T.region ?_
      refine RunT.ot0 (x := .v (.bool (decide (a0.Kind = 3)))) rfl rfl rfl rfl (.bin rfl rfl (fun w => b_eql w) rfl) ?_
      refine RunT.ot0 (x := .v (.bool (decide (a0.Kind = 3)))) rfl rfl rfl rfl (.assignX rfl) ?_
      refine RunT.nil ?_
      refine T.cond2 (t := decide (a0.Kind = 3)) rfl (fun c9 => ?_) (fun c9 => ?_)
      · replace H := ct H c9
        refine T.seq ?_
        refine T.region ?_
        refine RunT.ot0 (x := .ptr 0 1) rfl rfl rfl rfl (.fieldPX fl51_1 rfl rfl) ?_
        refine RunT.ot0 (x := .v (.string a0.Text)) rfl rfl rfl rfl (.loadP ty9 rfl rfl rfl) ?_
        refine RunT.ot0 (x := .v (.bool (a0.Text == (⟨#[]⟩ : ByteArray)))) rfl rfl rfl rfl (.bin rfl rfl (fun w => eqStr w) rfl) ?_
        refine RunT.ot0 (x := .v (.bool (a0.Text == (⟨#[]⟩ : ByteArray)))) rfl rfl rfl rfl (.moveX rfl) ?_
        refine RunT.cases (t := 42) (c := a0.Text == (⟨#[]⟩ : ByteArray)) rfl (fun g10 => ?_) (fun g10 => ?_)
        · replace H := ct H g10
          refine RunT.gt0 (x := .ptr 0 2) rfl rfl rfl (bo g10) rfl rfl (.fieldPX fl51_2 rfl rfl) ?_
          refine RunT.gt0 (x := .agg [.v (.int .i64 a0.Order.Id), .v (.int .i64 a0.Order.State), .v (.int .i64 a0.Order.Party.Size), .v (.int .i64 a0.Order.Party.Wheels), .v (.int .i64 a0.Order.Until), .v (.int .i64 a0.Order.First)]) rfl rfl rfl (bo g10) rfl rfl (.loadP ty49 rfl rfl rfl) ?_
          refine RunT.gt0 (x := .agg [.v (.int .i64 0), .v (.int .i64 0), .v (.int .i64 0), .v (.int .i64 0), .v (.int .i64 0), .v (.int .i64 0)]) rfl rfl rfl (bo g10) rfl rfl (.bu bu49 rfl) ?_
          refine RunT.gt0 (x := .v (.bool (decide (a0.Order = Order.mk 0 0 (Party.mk 0 0) 0 0)))) rfl rfl rfl (bo g10) rfl rfl (.binA (us := us_Order (a0.Order)) (vs := us_Order (Order.mk 0 0 (Party.mk 0 0) 0 0)) rfl rfl (fun w => eq_Order (a0.Order) (Order.mk 0 0 (Party.mk 0 0) 0 0) w) rfl) ?_
          refine RunT.ot0 (x := .v (.bool (decide (a0.Order = Order.mk 0 0 (Party.mk 0 0) 0 0)))) rfl rfl rfl rfl (.pickT (bo g10) rfl) ?_
          refine RunT.ot0 (x := .v (.bool (decide (a0.Order = Order.mk 0 0 (Party.mk 0 0) 0 0)))) rfl rfl rfl rfl (.moveX rfl) ?_
          refine RunT.cases (t := 48) (c := decide (a0.Order = Order.mk 0 0 (Party.mk 0 0) 0 0)) rfl (fun g11 => ?_) (fun g11 => ?_)
          · replace H := ct H g11
            refine RunT.gt0 (x := .ptr 0 8) rfl rfl rfl (bo g11) rfl rfl (.fieldPX fl51_3 rfl rfl) ?_
            refine RunT.gt0 (x := .v (.int .i64 a0.Time)) rfl rfl rfl (bo g11) rfl rfl (.loadP ty2 rfl rfl rfl) ?_
            refine RunT.gt0 (x := .v (.bool (decide (0 ≤ a0.Time)))) rfl rfl rfl (bo g11) rfl rfl (.bin rfl rfl (fun w => b_geq w) rfl) ?_
            refine RunT.ot0 (x := .v (.bool (decide (0 ≤ a0.Time)))) rfl rfl rfl rfl (.pickT (bo g11) rfl) ?_
            refine RunT.ot0 (x := .v (.bool (decide (0 ≤ a0.Time)))) rfl rfl rfl rfl (.moveX rfl) ?_
            refine RunT.cases (t := 53) (c := decide (0 ≤ a0.Time)) rfl (fun g12 => ?_) (fun g12 => ?_)
            · replace H := ct H g12
              refine RunT.gt0 (x := .ptr 0 8) rfl rfl rfl (bo g12) rfl rfl (.fieldPX fl51_3 rfl rfl) ?_
              refine RunT.gt0 (x := .v (.int .i64 a0.Time)) rfl rfl rfl (bo g12) rfl rfl (.loadP ty2 rfl rfl rfl) ?_
              refine RunT.gt0 (x := .v (.bool (decide (a0.Time ≤ 1099511627776)))) rfl rfl rfl (bo g12) rfl rfl (.bin rfl rfl (fun w => b_leq w) rfl) ?_
              refine RunT.ot0 (x := .v (.bool (decide (a0.Time ≤ 1099511627776)))) rfl rfl rfl rfl (.pickT (bo g12) rfl) ?_
              refine RunT.ot0 (x := .v (.bool (decide (a0.Time ≤ 1099511627776)))) rfl rfl rfl rfl (.assignX rfl) ?_
              refine RunT.nil ?_
              obtain rfl := si H
              refine T.sub (sub_to (st' := ⟨[(2, .v (.bool (decide (a0.Time ≤ 1099511627776))))], [], 8, []⟩) [] (by decide) rfl rfl (⟨⟨_, rfl, .one .v⟩, trivial⟩) (trivial)) ?_
              refine T.ret ?_
              exact RetOk.same [.v (.bool (decide (a0.Time ≤ 1099511627776)))] ⟨rfl, trivial⟩ rfl rfl rfl
            · replace H := cf H g12
              refine RunT.xn rfl rfl rfl (bo g12) rfl rfl ?_
              refine RunT.xn rfl rfl rfl (bo g12) rfl rfl ?_
              refine RunT.xn rfl rfl rfl (bo g12) rfl rfl ?_
              refine RunT.ot0 (x := .v (.bool false)) rfl rfl rfl rfl (.pickF (bo g12) rfl) ?_
              refine RunT.ot0 (x := .v (.bool false)) rfl rfl rfl rfl (.assignX rfl) ?_
              refine RunT.nil ?_
              obtain rfl := si H
              refine T.sub (sub_to (st' := ⟨[(2, .v (.bool false))], [], 8, []⟩) [] (by decide) rfl rfl (⟨⟨_, rfl, .one .v⟩, trivial⟩) (trivial)) ?_
              refine T.ret ?_
              exact RetOk.same [.v (.bool false)] ⟨rfl, trivial⟩ rfl rfl rfl
          · replace H := cf H g11
            refine RunT.xn rfl rfl rfl (bo g11) rfl rfl ?_
            refine RunT.xn rfl rfl rfl (bo g11) rfl rfl ?_
            refine RunT.xn rfl rfl rfl (bo g11) rfl rfl ?_
            refine RunT.ot0 (x := .v (.bool false)) rfl rfl rfl rfl (.pickF (bo g11) rfl) ?_
            refine RunT.ot0 (x := .v (.bool false)) rfl rfl rfl rfl (.moveX rfl) ?_
            refine RunT.xn rfl rfl rfl rfl rfl rfl ?_
            refine RunT.xn rfl rfl rfl rfl rfl rfl ?_
            refine RunT.xn rfl rfl rfl rfl rfl rfl ?_
            refine RunT.ot0 (x := .v (.bool false)) rfl rfl rfl rfl (.pickF rfl rfl) ?_
            refine RunT.ot0 (x := .v (.bool false)) rfl rfl rfl rfl (.assignX rfl) ?_
            refine RunT.nil ?_
            obtain rfl := si H
            refine T.sub (sub_to (st' := ⟨[(2, .v (.bool false))], [], 8, []⟩) [] (by decide) rfl rfl (⟨⟨_, rfl, .one .v⟩, trivial⟩) (trivial)) ?_
            refine T.ret ?_
            exact RetOk.same [.v (.bool false)] ⟨rfl, trivial⟩ rfl rfl rfl
        · replace H := cf H g10
          refine RunT.xn rfl rfl rfl (bo g10) rfl rfl ?_
          refine RunT.xn rfl rfl rfl (bo g10) rfl rfl ?_
          refine RunT.xn rfl rfl rfl (bo g10) rfl rfl ?_
          refine RunT.xn rfl rfl rfl (bo g10) rfl rfl ?_
          refine RunT.ot0 (x := .v (.bool false)) rfl rfl rfl rfl (.pickF (bo g10) rfl) ?_
          refine RunT.ot0 (x := .v (.bool false)) rfl rfl rfl rfl (.moveX rfl) ?_
          refine RunT.xn rfl rfl rfl rfl rfl rfl ?_
          refine RunT.xn rfl rfl rfl rfl rfl rfl ?_
          refine RunT.xn rfl rfl rfl rfl rfl rfl ?_
          refine RunT.ot0 (x := .v (.bool false)) rfl rfl rfl rfl (.pickF rfl rfl) ?_
          refine RunT.ot0 (x := .v (.bool false)) rfl rfl rfl rfl (.moveX rfl) ?_
          refine RunT.xn rfl rfl rfl rfl rfl rfl ?_
          refine RunT.xn rfl rfl rfl rfl rfl rfl ?_
          refine RunT.xn rfl rfl rfl rfl rfl rfl ?_
          refine RunT.ot0 (x := .v (.bool false)) rfl rfl rfl rfl (.pickF rfl rfl) ?_
          refine RunT.ot0 (x := .v (.bool false)) rfl rfl rfl rfl (.assignX rfl) ?_
          refine RunT.nil ?_
          obtain rfl := si H
          refine T.sub (sub_to (st' := ⟨[(2, .v (.bool false))], [], 8, []⟩) [] (by decide) rfl rfl (⟨⟨_, rfl, .one .v⟩, trivial⟩) (trivial)) ?_
          refine T.ret ?_
          exact RetOk.same [.v (.bool false)] ⟨rfl, trivial⟩ rfl rfl rfl
      · replace H := cf H c9
        refine T.seq ?_
        refine T.sub (sub_pick [1, 4] [0] (st' := ⟨[(1, .ptr 0 0), (4, .v (.int .i64 a0.Kind))], [(0, some (.box [.v (.int .i64 a0.Kind), .v (.string a0.Text), .v (.int .i64 a0.Order.Id), .v (.int .i64 a0.Order.State), .v (.int .i64 a0.Order.Party.Size), .v (.int .i64 a0.Order.Party.Wheels), .v (.int .i64 a0.Order.Until), .v (.int .i64 a0.Order.First), .v (.int .i64 a0.Time)]))], 8, []⟩) rfl rfl rfl rfl rfl) ?_
        refine T.region ?_
        refine RunT.ot0 (x := .v (.bool (decide (a0.Kind = 4)))) rfl rfl rfl rfl (.bin rfl rfl (fun w => b_eql w) rfl) ?_
        refine RunT.ot0 (x := .v (.bool (decide (a0.Kind = 4)))) rfl rfl rfl rfl (.assignX rfl) ?_
        refine RunT.nil ?_
        refine T.cond2 (t := decide (a0.Kind = 4)) rfl (fun c13 => ?_) (fun c13 => ?_)
        · replace H := ct H c13
          refine T.seq ?_
          refine T.region ?_
          refine RunT.ot0 (x := .agg [.v (.int .i64 a0.Kind), .v (.string a0.Text), .v (.int .i64 a0.Order.Id), .v (.int .i64 a0.Order.State), .v (.int .i64 a0.Order.Party.Size), .v (.int .i64 a0.Order.Party.Wheels), .v (.int .i64 a0.Order.Until), .v (.int .i64 a0.Order.First), .v (.int .i64 a0.Time)]) rfl rfl rfl rfl (.loadP ty51 rfl rfl rfl) ?_
          refine RunT.ot0 (x := .agg [.v (.int .i64 4), .v (.string (⟨#[]⟩ : ByteArray)), .v (.int .i64 0), .v (.int .i64 0), .v (.int .i64 0), .v (.int .i64 0), .v (.int .i64 0), .v (.int .i64 0), .v (.int .i64 0)]) rfl rfl rfl rfl (.bu bu51 rfl) ?_
          refine RunT.ot0 (x := .v (.bool (decide (a0 = Record.mk 4 (⟨#[]⟩ : ByteArray) (Order.mk 0 0 (Party.mk 0 0) 0 0) 0)))) rfl rfl rfl rfl (.binA (us := us_Record (a0)) (vs := us_Record (Record.mk 4 (⟨#[]⟩ : ByteArray) (Order.mk 0 0 (Party.mk 0 0) 0 0) 0)) rfl rfl (fun w => eq_Record (a0) (Record.mk 4 (⟨#[]⟩ : ByteArray) (Order.mk 0 0 (Party.mk 0 0) 0 0) 0) w) rfl) ?_
          refine RunT.ot0 (x := .v (.bool (decide (a0 = Record.mk 4 (⟨#[]⟩ : ByteArray) (Order.mk 0 0 (Party.mk 0 0) 0 0) 0)))) rfl rfl rfl rfl (.assignX rfl) ?_
          refine RunT.nil ?_
          obtain rfl := si H
          refine T.sub (sub_to (st' := ⟨[(2, .v (.bool (decide (a0 = Record.mk 4 (⟨#[]⟩ : ByteArray) (Order.mk 0 0 (Party.mk 0 0) 0 0) 0))))], [], 8, []⟩) [] (by decide) rfl rfl (⟨⟨_, rfl, .one .v⟩, trivial⟩) (trivial)) ?_
          refine T.ret ?_
          exact RetOk.same [.v (.bool (decide (a0 = Record.mk 4 (⟨#[]⟩ : ByteArray) (Order.mk 0 0 (Party.mk 0 0) 0 0) 0)))] ⟨rfl, trivial⟩ rfl rfl rfl
        · replace H := cf H c13
          refine T.skip ?_
          refine T.seq ?_
          refine T.region ?_
          refine RunT.ot0 (x := .v (.bool false)) rfl rfl rfl rfl (.assignX rfl) ?_
          refine RunT.nil ?_
          obtain rfl := si H
          refine T.sub (sub_to (st' := ⟨[(2, .v (.bool false))], [], 8, []⟩) [] (by decide) rfl rfl (⟨⟨_, rfl, .one .v⟩, trivial⟩) (trivial)) ?_
          refine T.ret ?_
          exact RetOk.same [.v (.bool false)] ⟨rfl, trivial⟩ rfl rfl rfl
set_option maxHeartbeats 4000000 in
theorem ref19_Put_pc (al : Bool) (k : Nat) (a0 : Int) (o : ByteArray) (H : ref19_Put k a0 = some o) : PC Try.prog al 47 [.v (.int .u32 a0)] (.v (.string o)) := by
  unfold ref19_Put at H
  refine PC.of_T Try.func47 rfl rfl (n := 16) rfl rfl (.inr rfl) ?_
  intro base B w0
  refine T.st (st' := ⟨[(0, .v (.int .u32 a0))], [], 0, []⟩) rfl ?_
  refine T.seq ?_
  refine T.region ?_
  refine RunT.ot0 (x := .v (.string (⟨#[]⟩ : ByteArray))) rfl rfl rfl rfl (.assignX rfl) ?_
  refine RunT.nil ?_
  refine T.seq ?_
  refine T.region ?_
  refine RunT.ot0 (x := .v (.int .u32 a0)) rfl rfl rfl rfl (.moveX rfl) ?_
  refine RunT.ot0 (x := .v (.int .u8 (IntKind.u8.wrap a0))) rfl rfl rfl rfl (.conv rfl (fun w => c_int w ⟨_, Try.underlying68⟩ Try.underlying5) rfl) ?_
  refine RunT.ot0 (x := .v (.int .u32 a0)) rfl rfl rfl rfl (.moveX rfl) ?_
  refine RunT.ot0 (x := .v (.int .u32 (a0.fdiv (2 ^ (min (8 : Int).toNat IntKind.u32.bits))))) rfl rfl rfl rfl (.bin rfl rfl (fun w => b_shr w (by decide)) rfl) ?_
  refine RunT.ot0 (x := .v (.int .u8 (IntKind.u8.wrap (a0.fdiv (2 ^ (min (8 : Int).toNat IntKind.u32.bits)))))) rfl rfl rfl rfl (.conv rfl (fun w => c_int w ⟨_, Try.underlying68⟩ Try.underlying5) rfl) ?_
  refine RunT.ot0 (x := .v (.int .u32 a0)) rfl rfl rfl rfl (.moveX rfl) ?_
  refine RunT.ot0 (x := .v (.int .u32 (a0.fdiv (2 ^ (min (16 : Int).toNat IntKind.u32.bits))))) rfl rfl rfl rfl (.bin rfl rfl (fun w => b_shr w (by decide)) rfl) ?_
  refine RunT.ot0 (x := .v (.int .u8 (IntKind.u8.wrap (a0.fdiv (2 ^ (min (16 : Int).toNat IntKind.u32.bits)))))) rfl rfl rfl rfl (.conv rfl (fun w => c_int w ⟨_, Try.underlying68⟩ Try.underlying5) rfl) ?_
  refine RunT.ot0 (x := .v (.int .u32 a0)) rfl rfl rfl rfl (.moveX rfl) ?_
  refine RunT.ot0 (x := .v (.int .u32 (a0.fdiv (2 ^ (min (24 : Int).toNat IntKind.u32.bits))))) rfl rfl rfl rfl (.bin rfl rfl (fun w => b_shr w (by decide)) rfl) ?_
  refine RunT.ot0 (x := .v (.int .u8 (IntKind.u8.wrap (a0.fdiv (2 ^ (min (24 : Int).toNat IntKind.u32.bits)))))) rfl rfl rfl rfl (.conv rfl (fun w => c_int w ⟨_, Try.underlying68⟩ Try.underlying5) rfl) ?_
  refine RunT.ot1 (x := .own 0 0 (([IntKind.u8.wrap a0, IntKind.u8.wrap (a0.fdiv (2 ^ (min (8 : Int).toNat IntKind.u32.bits))), IntKind.u8.wrap (a0.fdiv (2 ^ (min (16 : Int).toNat IntKind.u32.bits))), IntKind.u8.wrap (a0.fdiv (2 ^ (min (24 : Int).toNat IntKind.u32.bits)))]).length)) (p0 := (0, some (.arr false 1 (List.map eU8 [IntKind.u8.wrap a0, IntKind.u8.wrap (a0.fdiv (2 ^ (min (8 : Int).toNat IntKind.u32.bits))), IntKind.u8.wrap (a0.fdiv (2 ^ (min (16 : Int).toNat IntKind.u32.bits))), IntKind.u8.wrap (a0.fdiv (2 ^ (min (24 : Int).toNat IntKind.u32.bits)))])))) (n' := 8) rfl rfl rfl rfl (.bslicem (d := false) (l := [IntKind.u8.wrap a0, IntKind.u8.wrap (a0.fdiv (2 ^ (min (8 : Int).toNat IntKind.u32.bits))), IntKind.u8.wrap (a0.fdiv (2 ^ (min (16 : Int).toNat IntKind.u32.bits))), IntKind.u8.wrap (a0.fdiv (2 ^ (min (24 : Int).toNat IntKind.u32.bits)))]) (f := eU8) sl35 rfl rfl rfl enc_U8 rfl) rfl ?_
  refine RunT.ot0 (x := .v (.string (strOf [IntKind.u8.wrap a0, IntKind.u8.wrap (a0.fdiv (2 ^ (min (8 : Int).toNat IntKind.u32.bits))), IntKind.u8.wrap (a0.fdiv (2 ^ (min (16 : Int).toNat IntKind.u32.bits))), IntKind.u8.wrap (a0.fdiv (2 ^ (min (24 : Int).toNat IntKind.u32.bits)))]))) rfl rfl rfl rfl (.toStrm (d := false) (m := [IntKind.u8.wrap a0, IntKind.u8.wrap (a0.fdiv (2 ^ (min (8 : Int).toNat IntKind.u32.bits))), IntKind.u8.wrap (a0.fdiv (2 ^ (min (16 : Int).toNat IntKind.u32.bits))), IntKind.u8.wrap (a0.fdiv (2 ^ (min (24 : Int).toNat IntKind.u32.bits)))]) (f := eU8) Try.underlying35 Try.underlying5 Try.underlying9 rfl (.ownn Try.underlying35 rfl rfl (fun h => by cases h)) (fun _ => rfl)) ?_
  refine RunT.ot0 (x := .v (.string (strOf [IntKind.u8.wrap a0, IntKind.u8.wrap (a0.fdiv (2 ^ (min (8 : Int).toNat IntKind.u32.bits))), IntKind.u8.wrap (a0.fdiv (2 ^ (min (16 : Int).toNat IntKind.u32.bits))), IntKind.u8.wrap (a0.fdiv (2 ^ (min (24 : Int).toNat IntKind.u32.bits)))]))) rfl rfl rfl rfl (.assignX rfl) ?_
  refine RunT.nil ?_
  obtain rfl := si H
  refine T.sub (sub_to (st' := ⟨[(2, .v (.string (strOf [IntKind.u8.wrap a0, IntKind.u8.wrap (a0.fdiv (2 ^ (min (8 : Int).toNat IntKind.u32.bits))), IntKind.u8.wrap (a0.fdiv (2 ^ (min (16 : Int).toNat IntKind.u32.bits))), IntKind.u8.wrap (a0.fdiv (2 ^ (min (24 : Int).toNat IntKind.u32.bits)))])))], [], 8, []⟩) [] (by decide) rfl rfl (⟨⟨_, rfl, .one .v⟩, trivial⟩) (trivial)) ?_
  refine T.ret ?_
  exact RetOk.same [.v (.string (strOf [IntKind.u8.wrap a0, IntKind.u8.wrap (a0.fdiv (2 ^ (min (8 : Int).toNat IntKind.u32.bits))), IntKind.u8.wrap (a0.fdiv (2 ^ (min (16 : Int).toNat IntKind.u32.bits))), IntKind.u8.wrap (a0.fdiv (2 ^ (min (24 : Int).toNat IntKind.u32.bits)))]))] ⟨rfl, trivial⟩ rfl rfl rfl
set_option maxHeartbeats 4000000 in
theorem ref19_long_pc (al : Bool) (k : Nat) (a0 : Int) (o : ByteArray) (H : ref19_long k a0 = some o) : PC Try.prog al 48 [.v (.int .i64 a0)] (.v (.string o)) := by
  unfold ref19_long at H
  refine PC.of_T Try.func48 rfl rfl (n := 13) rfl rfl (.inr rfl) ?_
  intro base B w0
  refine T.st (st' := ⟨[(0, .v (.int .i64 a0))], [], 0, []⟩) rfl ?_
  refine T.seq ?_
  refine T.region ?_
  refine RunT.ot0 (x := .v (.string (⟨#[]⟩ : ByteArray))) rfl rfl rfl rfl (.assignX rfl) ?_
  refine RunT.nil ?_
  refine T.seq ?_
  refine T.region ?_
  refine RunT.ot0 (x := .v (.int .i64 a0)) rfl rfl rfl rfl (.moveX rfl) ?_
  refine RunT.ot0 (x := .v (.int .u64 (IntKind.u64.wrap a0))) rfl rfl rfl rfl (.conv rfl (fun w => c_int w ⟨_, Try.underlying2⟩ Try.underlying78) rfl) ?_
  refine RunT.ot0 (x := .v (.int .u32 (IntKind.u32.wrap (IntKind.u64.wrap a0)))) rfl rfl rfl rfl (.conv rfl (fun w => c_int w ⟨_, Try.underlying78⟩ Try.underlying68) rfl) ?_
  obtain ⟨r1, h2, H⟩ := bs H
  refine RunT.ot0 (x := .v (.string r1)) rfl rfl rfl rfl (.callp (ref19_Put_pc false k (IntKind.u32.wrap (IntKind.u64.wrap a0)) r1 h2) rfl ⟨(.one .v), trivial⟩ rfl rfl rfl) ?_
  refine RunT.ot0 (x := .v (.int .i64 a0)) rfl rfl rfl rfl (.moveX rfl) ?_
  refine RunT.ot0 (x := .v (.int .u64 (IntKind.u64.wrap a0))) rfl rfl rfl rfl (.conv rfl (fun w => c_int w ⟨_, Try.underlying2⟩ Try.underlying78) rfl) ?_
  refine RunT.ot0 (x := .v (.int .u64 ((IntKind.u64.wrap a0).fdiv (2 ^ (min (32 : Int).toNat IntKind.u64.bits))))) rfl rfl rfl rfl (.bin rfl rfl (fun w => b_shr w (by decide)) rfl) ?_
  refine RunT.ot0 (x := .v (.int .u32 (IntKind.u32.wrap ((IntKind.u64.wrap a0).fdiv (2 ^ (min (32 : Int).toNat IntKind.u64.bits)))))) rfl rfl rfl rfl (.conv rfl (fun w => c_int w ⟨_, Try.underlying78⟩ Try.underlying68) rfl) ?_
  obtain ⟨r3, h4, H⟩ := bs H
  refine RunT.ot0 (x := .v (.string r3)) rfl rfl rfl rfl (.callp (ref19_Put_pc false k (IntKind.u32.wrap ((IntKind.u64.wrap a0).fdiv (2 ^ (min (32 : Int).toNat IntKind.u64.bits)))) r3 h4) rfl ⟨(.one .v), trivial⟩ rfl rfl rfl) ?_
  obtain ⟨h5, H⟩ := gs H
  refine RunT.ot0 (x := .v (.string (r1 ++ r3))) rfl rfl rfl rfl (.bin rfl rfl (fun w => addStr (of_decide_eq_true h5) w) rfl) ?_
  refine RunT.ot0 (x := .v (.string (r1 ++ r3))) rfl rfl rfl rfl (.assignX rfl) ?_
  refine RunT.nil ?_
  obtain rfl := si H
  refine T.sub (sub_to (st' := ⟨[(2, .v (.string (r1 ++ r3)))], [], 8, []⟩) [] (by decide) rfl rfl (⟨⟨_, rfl, .one .v⟩, trivial⟩) (trivial)) ?_
  refine T.ret ?_
  exact RetOk.same [.v (.string (r1 ++ r3))] ⟨rfl, trivial⟩ rfl rfl rfl
set_option maxHeartbeats 4000000 in
theorem ref19_PutRecord_pc (al : Bool) (k : Nat) (a0 : Record) (o : ByteArray × Int) (H : ref19_PutRecord k a0 = some o) : PC Try.prog al 34 [.agg [.v (.int .i64 a0.Kind), .v (.string a0.Text), .v (.int .i64 a0.Order.Id), .v (.int .i64 a0.Order.State), .v (.int .i64 a0.Order.Party.Size), .v (.int .i64 a0.Order.Party.Wheels), .v (.int .i64 a0.Order.Until), .v (.int .i64 a0.Order.First), .v (.int .i64 a0.Time)]] (.tup [.v (.string o.1), .v (.int .i64 o.2)]) := by
  unfold ref19_PutRecord at H
  refine PC.of_T Try.func34 rfl rfl (n := 64) rfl rfl (.inr (flatT_tup ⟨rfl, rfl, trivial⟩)) ?_
  intro base B w0
  refine T.st (st' := ⟨[(0, .agg [.v (.int .i64 a0.Kind), .v (.string a0.Text), .v (.int .i64 a0.Order.Id), .v (.int .i64 a0.Order.State), .v (.int .i64 a0.Order.Party.Size), .v (.int .i64 a0.Order.Party.Wheels), .v (.int .i64 a0.Order.Until), .v (.int .i64 a0.Order.First), .v (.int .i64 a0.Time)])], [], 0, []⟩) rfl ?_
  refine T.seq ?_
  refine T.region ?_
  refine RunT.ot1 (x := .ptr 0 0) (p0 := (0, some (.box [.v (.int .i64 a0.Kind), .v (.string a0.Text), .v (.int .i64 a0.Order.Id), .v (.int .i64 a0.Order.State), .v (.int .i64 a0.Order.Party.Size), .v (.int .i64 a0.Order.Party.Wheels), .v (.int .i64 a0.Order.Until), .v (.int .i64 a0.Order.First), .v (.int .i64 a0.Time)]))) (n' := 8) rfl rfl rfl rfl (.boxX rfl rfl rfl) rfl ?_
  refine RunT.ot0 (x := .v (.string (⟨#[]⟩ : ByteArray))) rfl rfl rfl rfl (.assignX rfl) ?_
  refine RunT.ot0 (x := .v (.int .i64 0)) rfl rfl rfl rfl (.assignX rfl) ?_
  refine RunT.nil ?_
  refine T.seq ?_
  refine T.seq ?_
  refine T.region ?_
  refine RunT.ot0 (x := .agg [.v (.int .i64 a0.Kind), .v (.string a0.Text), .v (.int .i64 a0.Order.Id), .v (.int .i64 a0.Order.State), .v (.int .i64 a0.Order.Party.Size), .v (.int .i64 a0.Order.Party.Wheels), .v (.int .i64 a0.Order.Until), .v (.int .i64 a0.Order.First), .v (.int .i64 a0.Time)]) rfl rfl rfl rfl (.loadP ty51 rfl rfl rfl) ?_
  obtain ⟨r1, h2, H⟩ := bs H
  refine RunT.ot0 (x := .v (.bool r1)) rfl rfl rfl rfl (.callp (ref19_MayRecord_pc false k a0 r1 h2) rfl ⟨(.agg' ⟨.v, .v, .v, .v, .v, .v, .v, .v, .v, trivial⟩), trivial⟩ rfl rfl rfl) ?_
  refine RunT.ot0 (x := .v (.bool (!r1))) rfl rfl rfl rfl (.un rfl (fun w => u_not w) rfl) ?_
  refine RunT.nil ?_
  refine T.cond2 (t := !r1) rfl (fun c3 => ?_) (fun c3 => ?_)
  · replace H := ct H c3
    refine T.seq ?_
    refine T.region ?_
    refine RunT.ot0 (x := .v (.string (⟨#[]⟩ : ByteArray))) rfl rfl rfl rfl (.assignX rfl) ?_
    refine RunT.ot0 (x := .v (.int .i64 1)) rfl rfl rfl rfl (.assignX rfl) ?_
    refine RunT.nil ?_
    obtain rfl := si H
    refine T.sub (sub_to (st' := ⟨[(2, .v (.string (⟨#[]⟩ : ByteArray))), (3, .v (.int .i64 1))], [], 8, []⟩) [] (by decide) rfl rfl (⟨⟨_, rfl, .one .v⟩, ⟨⟨_, rfl, .one .v⟩, trivial⟩⟩) (trivial)) ?_
    refine T.ret ?_
    exact RetOk.same [.v (.string (⟨#[]⟩ : ByteArray)), .v (.int .i64 1)] ⟨rfl, rfl, trivial⟩ rfl rfl rfl
  · replace H := cf H c3
    refine T.skip ?_
    refine T.seq ?_
    refine T.region ?_
    refine RunT.ot0 (x := .ptr 0 0) rfl rfl rfl rfl (.fieldPX fl51_0 rfl rfl) ?_
    refine RunT.ot0 (x := .v (.int .i64 a0.Kind)) rfl rfl rfl rfl (.loadP ty3 rfl rfl rfl) ?_
    refine RunT.ot0 (x := .v (.int .u8 (IntKind.u8.wrap a0.Kind))) rfl rfl rfl rfl (.conv rfl (fun w => c_int w ⟨_, Try.underlying3⟩ Try.underlying5) rfl) ?_
    refine RunT.ot1 (x := .own 8 0 (([IntKind.u8.wrap a0.Kind]).length)) (p0 := (8, some (.arr false 1 (List.map eU8 [IntKind.u8.wrap a0.Kind])))) (n' := 16) rfl rfl rfl rfl (.bslicem (d := false) (l := [IntKind.u8.wrap a0.Kind]) (f := eU8) sl35 rfl rfl rfl enc_U8 rfl) rfl ?_
    refine RunT.ot0 (x := .v (.string (strOf [IntKind.u8.wrap a0.Kind]))) rfl rfl rfl rfl (.toStrm (d := false) (m := [IntKind.u8.wrap a0.Kind]) (f := eU8) Try.underlying35 Try.underlying5 Try.underlying9 rfl (.ownn Try.underlying35 rfl rfl (fun h => by cases h)) (fun _ => rfl)) ?_
    refine RunT.ot0 (x := .v (.string (strOf [IntKind.u8.wrap a0.Kind]))) rfl rfl rfl rfl (.assignX rfl) ?_
    refine RunT.nil ?_
    refine T.seq ?_
    refine T.region ?_
    refine RunT.ot0 (x := .ptr 0 2) rfl rfl rfl rfl (.fieldPX fl51_2 rfl rfl) ?_
    refine RunT.ot0 (x := .agg [.v (.int .i64 a0.Order.Id), .v (.int .i64 a0.Order.State), .v (.int .i64 a0.Order.Party.Size), .v (.int .i64 a0.Order.Party.Wheels), .v (.int .i64 a0.Order.Until), .v (.int .i64 a0.Order.First)]) rfl rfl rfl rfl (.loadP ty49 rfl rfl rfl) ?_
    refine RunT.ot1 (x := .ptr 16 0) (p0 := (16, some (.box [.v (.int .i64 0), .v (.int .i64 0), .v (.int .i64 0), .v (.int .i64 0), .v (.int .i64 0), .v (.int .i64 0)]))) (n' := 24) rfl rfl rfl rfl (.allocX in49.zero rfl rfl) rfl ?_
    refine RunT.on1 (x := .junk) (p0 := (16, some (.box [.v (.int .i64 a0.Order.Id), .v (.int .i64 a0.Order.State), .v (.int .i64 a0.Order.Party.Size), .v (.int .i64 a0.Order.Party.Wheels), .v (.int .i64 a0.Order.Until), .v (.int .i64 a0.Order.First)]))) (n' := 32) rfl rfl rfl (.storePX ty49 rfl rfl rfl rfl rfl rfl rfl) rfl ?_
    refine RunT.nil ?_
    refine T.seq ?_
    refine T.seq ?_
    refine T.sub (sub_pick [1, 4, 5] [0, 16] (st' := ⟨[(1, .ptr 0 0), (4, .v (.string (strOf [IntKind.u8.wrap a0.Kind]))), (5, .ptr 16 0)], [(0, some (.box [.v (.int .i64 a0.Kind), .v (.string a0.Text), .v (.int .i64 a0.Order.Id), .v (.int .i64 a0.Order.State), .v (.int .i64 a0.Order.Party.Size), .v (.int .i64 a0.Order.Party.Wheels), .v (.int .i64 a0.Order.Until), .v (.int .i64 a0.Order.First), .v (.int .i64 a0.Time)])), (16, some (.box [.v (.int .i64 a0.Order.Id), .v (.int .i64 a0.Order.State), .v (.int .i64 a0.Order.Party.Size), .v (.int .i64 a0.Order.Party.Wheels), .v (.int .i64 a0.Order.Until), .v (.int .i64 a0.Order.First)]))], 32, []⟩) rfl rfl rfl rfl rfl) ?_
    refine T.region ?_
    refine RunT.ot0 (x := .ptr 0 0) rfl rfl rfl rfl (.fieldPX fl51_0 rfl rfl) ?_
    refine RunT.ot0 (x := .v (.int .i64 a0.Kind)) rfl rfl rfl rfl (.loadP ty3 rfl rfl rfl) ?_
    refine RunT.nil ?_
    refine T.block ?_
    refine T.seq ?_
    refine T.region ?_
    refine RunT.ot0 (x := .v (.bool (decide (a0.Kind = 1)))) rfl rfl rfl rfl (.bin rfl rfl (fun w => b_eql w) rfl) ?_
    refine RunT.ot0 (x := .v (.bool (decide (a0.Kind = 1)))) rfl rfl rfl rfl (.assignX rfl) ?_
    refine RunT.nil ?_
    refine T.cond2 (t := decide (a0.Kind = 1)) rfl (fun c4 => ?_) (fun c4 => ?_)
    · replace H := ct H c4
      refine T.seq ?_
      refine T.region ?_
      refine RunT.ot0 (x := .v (.string (strOf [IntKind.u8.wrap a0.Kind]))) rfl rfl rfl rfl (.moveX rfl) ?_
      refine RunT.ot0 (x := .ptr 0 1) rfl rfl rfl rfl (.fieldPX fl51_1 rfl rfl) ?_
      refine RunT.ot0 (x := .v (.string a0.Text)) rfl rfl rfl rfl (.loadP ty9 rfl rfl rfl) ?_
      obtain ⟨h5, H⟩ := gs H
      refine RunT.ot0 (x := .v (.string ((strOf [IntKind.u8.wrap a0.Kind]) ++ a0.Text))) rfl rfl rfl rfl (.bin rfl rfl (fun w => addStr (of_decide_eq_true h5) w) rfl) ?_
      refine RunT.ot0 (x := .v (.string ((strOf [IntKind.u8.wrap a0.Kind]) ++ a0.Text))) rfl rfl rfl rfl (.assignX rfl) ?_
      refine RunT.ot0 (x := .v (.int .i64 0)) rfl rfl rfl rfl (.assignX rfl) ?_
      refine RunT.nil ?_
      obtain rfl := si H
      refine T.sub (sub_to (st' := ⟨[(2, .v (.string ((strOf [IntKind.u8.wrap a0.Kind]) ++ a0.Text))), (3, .v (.int .i64 0))], [], 8, []⟩) [] (by decide) rfl rfl (⟨⟨_, rfl, .one .v⟩, ⟨⟨_, rfl, .one .v⟩, trivial⟩⟩) (trivial)) ?_
      refine T.ret ?_
      exact RetOk.same [.v (.string ((strOf [IntKind.u8.wrap a0.Kind]) ++ a0.Text)), .v (.int .i64 0)] ⟨rfl, rfl, trivial⟩ rfl rfl rfl
    · replace H := cf H c4
      refine T.seq ?_
      refine T.region ?_
      refine RunT.ot0 (x := .v (.bool (decide (a0.Kind = 2)))) rfl rfl rfl rfl (.bin rfl rfl (fun w => b_eql w) rfl) ?_
      refine RunT.ot0 (x := .v (.bool (decide (a0.Kind = 2)))) rfl rfl rfl rfl (.assignX rfl) ?_
      refine RunT.nil ?_
      refine T.cond2 (t := decide (a0.Kind = 2)) rfl (fun c6 => ?_) (fun c6 => ?_)
      · replace H := ct H c6
        refine T.seq ?_
        refine T.draw (wr := []) mixed rfl rfl ?_ rfl
        refine RunD.ot0 (x := .v (.string (strOf [IntKind.u8.wrap a0.Kind]))) rfl rfl rfl rfl (.moveX rfl) rfl ?_
        refine RunD.ot0 (x := .ptr 16 0) rfl rfl rfl rfl (.fieldPX fl49_0 rfl rfl) rfl ?_
        refine RunD.ot0 (x := .v (.int .i64 a0.Order.Id)) rfl rfl rfl rfl (.loadP ty3 rfl rfl rfl) rfl ?_
        refine RunD.ot0 (x := .v (.int .u32 (IntKind.u32.wrap a0.Order.Id))) rfl rfl rfl rfl (.conv rfl (fun w => c_int w ⟨_, Try.underlying3⟩ Try.underlying68) rfl) rfl ?_
        obtain ⟨r17, h18, H⟩ := bs H
        refine RunD.ot0 (x := .v (.string r17)) rfl rfl rfl rfl (.callp (ref19_Put_pc false k (IntKind.u32.wrap a0.Order.Id) r17 h18) rfl ⟨(.one .v), trivial⟩ rfl rfl rfl) rfl ?_
        obtain ⟨h19, H⟩ := gs H
        refine RunD.ot0 (x := .v (.string ((strOf [IntKind.u8.wrap a0.Kind]) ++ r17))) rfl rfl rfl rfl (.bin rfl rfl (fun w => addStr (of_decide_eq_true h19) w) rfl) rfl ?_
        refine RunD.ot0 (x := .ptr 16 1) rfl rfl rfl rfl (.fieldPX fl49_1 rfl rfl) rfl ?_
        refine RunD.ot0 (x := .v (.int .i64 a0.Order.State)) rfl rfl rfl rfl (.loadP ty3 rfl rfl rfl) rfl ?_
        refine RunD.ot0 (x := .v (.int .u8 (IntKind.u8.wrap a0.Order.State))) rfl rfl rfl rfl (.conv rfl (fun w => c_int w ⟨_, Try.underlying3⟩ Try.underlying5) rfl) rfl ?_
        refine RunD.ot0 (x := .ptr 16 2) rfl rfl rfl rfl (.fieldPX fl49_2 rfl rfl) rfl ?_
        refine RunD.ot0 (x := .ptr 16 2) rfl rfl rfl rfl (.fieldPX fl23_0 rfl rfl) rfl ?_
        refine RunD.ot0 (x := .v (.int .i64 a0.Order.Party.Size)) rfl rfl rfl rfl (.loadP ty3 rfl rfl rfl) rfl ?_
        refine RunD.ot0 (x := .v (.int .u8 (IntKind.u8.wrap a0.Order.Party.Size))) rfl rfl rfl rfl (.conv rfl (fun w => c_int w ⟨_, Try.underlying3⟩ Try.underlying5) rfl) rfl ?_
        refine RunD.ot0 (x := .ptr 16 2) rfl rfl rfl rfl (.fieldPX fl49_2 rfl rfl) rfl ?_
        refine RunD.ot0 (x := .ptr 16 3) rfl rfl rfl rfl (.fieldPX fl23_1 rfl rfl) rfl ?_
        refine RunD.ot0 (x := .v (.int .i64 a0.Order.Party.Wheels)) rfl rfl rfl rfl (.loadP ty3 rfl rfl rfl) rfl ?_
        refine RunD.ot0 (x := .v (.int .u8 (IntKind.u8.wrap a0.Order.Party.Wheels))) rfl rfl rfl rfl (.conv rfl (fun w => c_int w ⟨_, Try.underlying3⟩ Try.underlying5) rfl) rfl ?_
        refine RunD.ot1 (x := .own 168 0 (([IntKind.u8.wrap a0.Order.State, IntKind.u8.wrap a0.Order.Party.Size, IntKind.u8.wrap a0.Order.Party.Wheels]).length)) (p0 := (168, some (.arr false 1 (List.map eU8 [IntKind.u8.wrap a0.Order.State, IntKind.u8.wrap a0.Order.Party.Size, IntKind.u8.wrap a0.Order.Party.Wheels])))) rfl rfl rfl rfl (.bslicem (d := false) (l := [IntKind.u8.wrap a0.Order.State, IntKind.u8.wrap a0.Order.Party.Size, IntKind.u8.wrap a0.Order.Party.Wheels]) (f := eU8) sl35 rfl rfl rfl enc_U8 rfl) rfl ?_
        refine RunD.ot0 (x := .v (.string (strOf [IntKind.u8.wrap a0.Order.State, IntKind.u8.wrap a0.Order.Party.Size, IntKind.u8.wrap a0.Order.Party.Wheels]))) rfl rfl rfl rfl (.toStrm (d := false) (m := [IntKind.u8.wrap a0.Order.State, IntKind.u8.wrap a0.Order.Party.Size, IntKind.u8.wrap a0.Order.Party.Wheels]) (f := eU8) Try.underlying35 Try.underlying5 Try.underlying9 rfl (.ownn Try.underlying35 rfl rfl (fun h => by cases h)) (fun _ => rfl)) rfl ?_
        obtain ⟨h20, H⟩ := gs H
        refine RunD.ot0 (x := .v (.string (((strOf [IntKind.u8.wrap a0.Kind]) ++ r17) ++ (strOf [IntKind.u8.wrap a0.Order.State, IntKind.u8.wrap a0.Order.Party.Size, IntKind.u8.wrap a0.Order.Party.Wheels])))) rfl rfl rfl rfl (.bin rfl rfl (fun w => addStr (of_decide_eq_true h20) w) rfl) rfl ?_
        refine RunD.ot0 (x := .ptr 16 4) rfl rfl rfl rfl (.fieldPX fl49_3 rfl rfl) rfl ?_
        refine RunD.ot0 (x := .v (.int .i64 a0.Order.Until)) rfl rfl rfl rfl (.loadP ty2 rfl rfl rfl) rfl ?_
        obtain ⟨r21, h22, H⟩ := bs H
        refine RunD.ot0 (x := .v (.string r21)) rfl rfl rfl rfl (.callp (ref19_long_pc false k a0.Order.Until r21 h22) rfl ⟨(.one .v), trivial⟩ rfl rfl rfl) rfl ?_
        obtain ⟨h23, H⟩ := gs H
        refine RunD.ot0 (x := .v (.string ((((strOf [IntKind.u8.wrap a0.Kind]) ++ r17) ++ (strOf [IntKind.u8.wrap a0.Order.State, IntKind.u8.wrap a0.Order.Party.Size, IntKind.u8.wrap a0.Order.Party.Wheels])) ++ r21))) rfl rfl rfl rfl (.bin rfl rfl (fun w => addStr (of_decide_eq_true h23) w) rfl) rfl ?_
        refine RunD.ot0 (x := .ptr 16 5) rfl rfl rfl rfl (.fieldPX fl49_4 rfl rfl) rfl ?_
        refine RunD.ot0 (x := .v (.int .i64 a0.Order.First)) rfl rfl rfl rfl (.loadP ty3 rfl rfl rfl) rfl ?_
        refine RunD.ot0 (x := .v (.int .i64 (wr (a0.Order.First + 1)))) rfl rfl rfl rfl (.bin rfl rfl (fun w => b_addw w) rfl) rfl ?_
        refine RunD.ot0 (x := .v (.int .u32 (IntKind.u32.wrap (wr (a0.Order.First + 1))))) rfl rfl rfl rfl (.conv rfl (fun w => c_int w ⟨_, Try.underlying3⟩ Try.underlying68) rfl) rfl ?_
        obtain ⟨r24, h25, H⟩ := bs H
        refine RunD.ot0 (x := .v (.string r24)) rfl rfl rfl rfl (.callp (ref19_Put_pc false k (IntKind.u32.wrap (wr (a0.Order.First + 1))) r24 h25) rfl ⟨(.one .v), trivial⟩ rfl rfl rfl) rfl ?_
        obtain ⟨h26, H⟩ := gs H
        refine RunD.ot0 (x := .v (.string (((((strOf [IntKind.u8.wrap a0.Kind]) ++ r17) ++ (strOf [IntKind.u8.wrap a0.Order.State, IntKind.u8.wrap a0.Order.Party.Size, IntKind.u8.wrap a0.Order.Party.Wheels])) ++ r21) ++ r24))) rfl rfl rfl rfl (.bin rfl rfl (fun w => addStr (of_decide_eq_true h26) w) rfl) rfl ?_
        refine RunD.ot0 (x := .v (.string (((((strOf [IntKind.u8.wrap a0.Kind]) ++ r17) ++ (strOf [IntKind.u8.wrap a0.Order.State, IntKind.u8.wrap a0.Order.Party.Size, IntKind.u8.wrap a0.Order.Party.Wheels])) ++ r21) ++ r24))) rfl rfl rfl rfl (.assignX rfl) rfl ?_
        refine RunD.ot0 (x := .v (.int .i64 0)) rfl rfl rfl rfl (.assignX rfl) rfl ?_
        refine RunD.nil (by kernel_rfl) ⟨rfl, rfl, ?_⟩
        obtain rfl := si H
        refine T.sub (sub_to (st' := ⟨[(2, .v (.string (((((strOf [IntKind.u8.wrap a0.Kind]) ++ r17) ++ (strOf [IntKind.u8.wrap a0.Order.State, IntKind.u8.wrap a0.Order.Party.Size, IntKind.u8.wrap a0.Order.Party.Wheels])) ++ r21) ++ r24))), (3, .v (.int .i64 0))], [], 8, []⟩) [] (by decide) rfl rfl (⟨⟨_, rfl, .one .v⟩, ⟨⟨_, rfl, .one .v⟩, trivial⟩⟩) (trivial)) ?_
        refine T.ret ?_
        exact RetOk.same [.v (.string (((((strOf [IntKind.u8.wrap a0.Kind]) ++ r17) ++ (strOf [IntKind.u8.wrap a0.Order.State, IntKind.u8.wrap a0.Order.Party.Size, IntKind.u8.wrap a0.Order.Party.Wheels])) ++ r21) ++ r24)), .v (.int .i64 0)] ⟨rfl, rfl, trivial⟩ rfl rfl rfl
      · replace H := cf H c6
        refine T.seq ?_
        refine T.sub (sub_pick [1, 4, 17] [0] (st' := ⟨[(1, .ptr 0 0), (4, .v (.string (strOf [IntKind.u8.wrap a0.Kind]))), (17, .v (.int .i64 a0.Kind))], [(0, some (.box [.v (.int .i64 a0.Kind), .v (.string a0.Text), .v (.int .i64 a0.Order.Id), .v (.int .i64 a0.Order.State), .v (.int .i64 a0.Order.Party.Size), .v (.int .i64 a0.Order.Party.Wheels), .v (.int .i64 a0.Order.Until), .v (.int .i64 a0.Order.First), .v (.int .i64 a0.Time)]))], 32, []⟩) rfl rfl rfl rfl rfl) ?_
        refine T.region ?_
        refine RunT.ot0 (x := .v (.bool (decide (a0.Kind = 3)))) rfl rfl rfl rfl (.bin rfl rfl (fun w => b_eql w) rfl) ?_
        refine RunT.ot0 (x := .v (.bool (decide (a0.Kind = 3)))) rfl rfl rfl rfl (.assignX rfl) ?_
        refine RunT.nil ?_
        refine T.cond2 (t := decide (a0.Kind = 3)) rfl (fun c27 => ?_) (fun c27 => ?_)
        · replace H := ct H c27
          refine T.seq ?_
          refine T.region ?_
          refine RunT.ot0 (x := .v (.string (strOf [IntKind.u8.wrap a0.Kind]))) rfl rfl rfl rfl (.moveX rfl) ?_
          refine RunT.ot0 (x := .ptr 0 8) rfl rfl rfl rfl (.fieldPX fl51_3 rfl rfl) ?_
          refine RunT.ot0 (x := .v (.int .i64 a0.Time)) rfl rfl rfl rfl (.loadP ty2 rfl rfl rfl) ?_
          obtain ⟨r28, h29, H⟩ := bs H
          refine RunT.ot0 (x := .v (.string r28)) rfl rfl rfl rfl (.callp (ref19_long_pc false k a0.Time r28 h29) rfl ⟨(.one .v), trivial⟩ rfl rfl rfl) ?_
          obtain ⟨h30, H⟩ := gs H
          refine RunT.ot0 (x := .v (.string ((strOf [IntKind.u8.wrap a0.Kind]) ++ r28))) rfl rfl rfl rfl (.bin rfl rfl (fun w => addStr (of_decide_eq_true h30) w) rfl) ?_
          refine RunT.ot0 (x := .v (.string ((strOf [IntKind.u8.wrap a0.Kind]) ++ r28))) rfl rfl rfl rfl (.assignX rfl) ?_
          refine RunT.ot0 (x := .v (.int .i64 0)) rfl rfl rfl rfl (.assignX rfl) ?_
          refine RunT.nil ?_
          obtain rfl := si H
          refine T.sub (sub_to (st' := ⟨[(2, .v (.string ((strOf [IntKind.u8.wrap a0.Kind]) ++ r28))), (3, .v (.int .i64 0))], [], 8, []⟩) [] (by decide) rfl rfl (⟨⟨_, rfl, .one .v⟩, ⟨⟨_, rfl, .one .v⟩, trivial⟩⟩) (trivial)) ?_
          refine T.ret ?_
          exact RetOk.same [.v (.string ((strOf [IntKind.u8.wrap a0.Kind]) ++ r28)), .v (.int .i64 0)] ⟨rfl, rfl, trivial⟩ rfl rfl rfl
        · replace H := cf H c27
          refine T.skip ?_
          refine T.seq ?_
          refine T.region ?_
          refine RunT.ot0 (x := .v (.string (strOf [IntKind.u8.wrap a0.Kind]))) rfl rfl rfl rfl (.moveX rfl) ?_
          refine RunT.ot0 (x := .v (.string (strOf [IntKind.u8.wrap a0.Kind]))) rfl rfl rfl rfl (.assignX rfl) ?_
          refine RunT.ot0 (x := .v (.int .i64 0)) rfl rfl rfl rfl (.assignX rfl) ?_
          refine RunT.nil ?_
          obtain rfl := si H
          refine T.sub (sub_to (st' := ⟨[(2, .v (.string (strOf [IntKind.u8.wrap a0.Kind]))), (3, .v (.int .i64 0))], [], 8, []⟩) [] (by decide) rfl rfl (⟨⟨_, rfl, .one .v⟩, ⟨⟨_, rfl, .one .v⟩, trivial⟩⟩) (trivial)) ?_
          refine T.ret ?_
          exact RetOk.same [.v (.string (strOf [IntKind.u8.wrap a0.Kind])), .v (.int .i64 0)] ⟨rfl, rfl, trivial⟩ rfl rfl rfl
set_option maxHeartbeats 4000000 in
theorem ref19_Get_pc (al : Bool) (k : Nat) (a0 : ByteArray) (a1 : Int) (o : Int × Int) (H : ref19_Get k a0 a1 = some o) : PC Try.prog al 51 [.v (.string a0), .v (.int .i64 a1)] (.tup [.v (.int .u32 o.1), .v (.int .i64 o.2)]) := by
  unfold ref19_Get at H
  refine PC.of_T Try.func51 rfl rfl (n := 46) rfl rfl (.inr (flatT_tup ⟨rfl, rfl, trivial⟩)) ?_
  intro base B w0
  refine T.st (st' := ⟨[(0, .v (.string a0)), (1, .v (.int .i64 a1))], [], 0, []⟩) rfl ?_
  refine T.seq ?_
  refine T.region ?_
  refine RunT.ot0 (x := .v (.int .u32 0)) rfl rfl rfl rfl (.assignX rfl) ?_
  refine RunT.ot0 (x := .v (.int .i64 0)) rfl rfl rfl rfl (.assignX rfl) ?_
  refine RunT.nil ?_
  refine T.seq ?_
  refine T.seq ?_
  refine T.region ?_
  refine RunT.ot0 (x := .v (.int .i64 a1)) rfl rfl rfl rfl (.moveX rfl) ?_
  refine RunT.ot0 (x := .v (.bool (decide (a1 < 0)))) rfl rfl rfl rfl (.bin rfl rfl (fun w => b_lss w) rfl) ?_
  refine RunT.ot0 (x := .v (.bool (decide (a1 < 0)))) rfl rfl rfl rfl (.moveX rfl) ?_
  refine RunT.cases (t := 8) (c := decide (a1 < 0)) rfl (fun g1 => ?_) (fun g1 => ?_)
  · replace H := ct H g1
    refine RunT.xn rfl rfl rfl (bo g1) rfl rfl ?_
    refine RunT.xn rfl rfl rfl (bo g1) rfl rfl ?_
    refine RunT.xn rfl rfl rfl (bo g1) rfl rfl ?_
    refine RunT.xn rfl rfl rfl (bo g1) rfl rfl ?_
    refine RunT.ot0 (x := .v (.bool true)) rfl rfl rfl rfl (.pickT (bo g1) rfl) ?_
    refine RunT.ot0 (x := .v (.bool true)) rfl rfl rfl rfl (.moveX rfl) ?_
    refine RunT.xn rfl rfl rfl rfl rfl rfl ?_
    refine RunT.xn rfl rfl rfl rfl rfl rfl ?_
    refine RunT.xn rfl rfl rfl rfl rfl rfl ?_
    refine RunT.xn rfl rfl rfl rfl rfl rfl ?_
    refine RunT.xn rfl rfl rfl rfl rfl rfl ?_
    refine RunT.ot0 (x := .v (.bool true)) rfl rfl rfl rfl (.pickT rfl rfl) ?_
    refine RunT.nil ?_
    refine T.condT rfl ?_
    refine T.seq ?_
    refine T.region ?_
    refine RunT.ot0 (x := .v (.int .u32 0)) rfl rfl rfl rfl (.assignX rfl) ?_
    refine RunT.ot0 (x := .v (.int .i64 10)) rfl rfl rfl rfl (.assignX rfl) ?_
    refine RunT.nil ?_
    obtain rfl := si H
    refine T.sub (sub_to (st' := ⟨[(4, .v (.int .u32 0)), (5, .v (.int .i64 10))], [], 8, []⟩) [] (by decide) rfl rfl (⟨⟨_, rfl, .one .v⟩, ⟨⟨_, rfl, .one .v⟩, trivial⟩⟩) (trivial)) ?_
    refine T.ret ?_
    exact RetOk.same [.v (.int .u32 0), .v (.int .i64 10)] ⟨rfl, rfl, trivial⟩ rfl rfl rfl
  · replace H := cf H g1
    refine RunT.gt0 (x := .v (.int .i64 a1)) rfl rfl rfl (bo g1) rfl rfl (.moveX rfl) ?_
    refine RunT.gt0 (x := .v (.string a0)) rfl rfl rfl (bo g1) rfl rfl (.moveX rfl) ?_
    refine RunT.gt0 (x := .v (.int .i64 (a0.size : Int))) rfl rfl rfl (bo g1) rfl rfl (.lenV rfl (fun _ w => len_str rfl Try.underlying9 w) rfl) ?_
    refine RunT.gt0 (x := .v (.bool (decide ((a0.size : Int) < a1)))) rfl rfl rfl (bo g1) rfl rfl (.bin rfl rfl (fun w => b_gtr w) rfl) ?_
    refine RunT.ot0 (x := .v (.bool (decide ((a0.size : Int) < a1)))) rfl rfl rfl rfl (.pickF (bo g1) rfl) ?_
    refine RunT.ot0 (x := .v (.bool (decide ((a0.size : Int) < a1)))) rfl rfl rfl rfl (.moveX rfl) ?_
    refine RunT.cases (t := 14) (c := decide ((a0.size : Int) < a1)) rfl (fun g2 => ?_) (fun g2 => ?_)
    · replace H := ct H g2
      refine RunT.xn rfl rfl rfl (bo g2) rfl rfl ?_
      refine RunT.xn rfl rfl rfl (bo g2) rfl rfl ?_
      refine RunT.xn rfl rfl rfl (bo g2) rfl rfl ?_
      refine RunT.xn rfl rfl rfl (bo g2) rfl rfl ?_
      refine RunT.xn rfl rfl rfl (bo g2) rfl rfl ?_
      refine RunT.ot0 (x := .v (.bool true)) rfl rfl rfl rfl (.pickT (bo g2) rfl) ?_
      refine RunT.nil ?_
      refine T.condT rfl ?_
      refine T.seq ?_
      refine T.sub (sub_pick [] [] (st' := ⟨[], [], 0, []⟩) rfl rfl rfl rfl rfl) ?_
      refine T.region ?_
      refine RunT.ot0 (x := .v (.int .u32 0)) rfl rfl rfl rfl (.assignX rfl) ?_
      refine RunT.ot0 (x := .v (.int .i64 10)) rfl rfl rfl rfl (.assignX rfl) ?_
      refine RunT.nil ?_
      obtain rfl := si H
      refine T.sub (sub_to (st' := ⟨[(4, .v (.int .u32 0)), (5, .v (.int .i64 10))], [], 8, []⟩) [] (by decide) rfl rfl (⟨⟨_, rfl, .one .v⟩, ⟨⟨_, rfl, .one .v⟩, trivial⟩⟩) (trivial)) ?_
      refine T.ret ?_
      exact RetOk.same [.v (.int .u32 0), .v (.int .i64 10)] ⟨rfl, rfl, trivial⟩ rfl rfl rfl
    · replace H := cf H g2
      refine RunT.gt0 (x := .v (.string a0)) rfl rfl rfl (bo g2) rfl rfl (.moveX rfl) ?_
      refine RunT.gt0 (x := .v (.int .i64 (a0.size : Int))) rfl rfl rfl (bo g2) rfl rfl (.lenV rfl (fun _ w => len_str rfl Try.underlying9 w) rfl) ?_
      refine RunT.gt0 (x := .v (.int .i64 a1)) rfl rfl rfl (bo g2) rfl rfl (.moveX rfl) ?_
      refine RunT.gt0 (x := .v (.int .i64 (wr ((a0.size : Int) - a1)))) rfl rfl rfl (bo g2) rfl rfl (.bin rfl rfl (fun w => b_subw w) rfl) ?_
      refine RunT.gt0 (x := .v (.bool (decide ((wr ((a0.size : Int) - a1)) < 4)))) rfl rfl rfl (bo g2) rfl rfl (.bin rfl rfl (fun w => b_lss w) rfl) ?_
      refine RunT.ot0 (x := .v (.bool (decide ((wr ((a0.size : Int) - a1)) < 4)))) rfl rfl rfl rfl (.pickF (bo g2) rfl) ?_
      refine RunT.nil ?_
      refine T.cond2 (t := decide ((wr ((a0.size : Int) - a1)) < 4)) rfl (fun c3 => ?_) (fun c3 => ?_)
      · replace H := ct H c3
        refine T.seq ?_
        refine T.region ?_
        refine RunT.ot0 (x := .v (.int .u32 0)) rfl rfl rfl rfl (.assignX rfl) ?_
        refine RunT.ot0 (x := .v (.int .i64 10)) rfl rfl rfl rfl (.assignX rfl) ?_
        refine RunT.nil ?_
        obtain rfl := si H
        refine T.sub (sub_to (st' := ⟨[(4, .v (.int .u32 0)), (5, .v (.int .i64 10))], [], 8, []⟩) [] (by decide) rfl rfl (⟨⟨_, rfl, .one .v⟩, ⟨⟨_, rfl, .one .v⟩, trivial⟩⟩) (trivial)) ?_
        refine T.ret ?_
        exact RetOk.same [.v (.int .u32 0), .v (.int .i64 10)] ⟨rfl, rfl, trivial⟩ rfl rfl rfl
      · replace H := cf H c3
        refine T.skip ?_
        refine T.seq ?_
        refine T.draw (wr := []) mixed rfl rfl ?_ rfl
        refine RunD.ot0 (x := .v (.string a0)) rfl rfl rfl rfl (.moveX rfl) rfl ?_
        refine RunD.ot0 (x := .v (.int .i64 a1)) rfl rfl rfl rfl (.moveX rfl) rfl ?_
        obtain ⟨y12, h13, H⟩ := bs H
        refine RunD.ot0 (x := .v (.int .u8 y12)) rfl rfl rfl rfl (.idxS Try.underlying9 rfl rfl h13) rfl ?_
        refine RunD.ot0 (x := .v (.int .u32 (IntKind.u32.wrap y12))) rfl rfl rfl rfl (.conv rfl (fun w => c_int w ⟨_, Try.underlying5⟩ Try.underlying68) rfl) rfl ?_
        refine RunD.ot0 (x := .v (.string a0)) rfl rfl rfl rfl (.moveX rfl) rfl ?_
        refine RunD.ot0 (x := .v (.int .i64 a1)) rfl rfl rfl rfl (.moveX rfl) rfl ?_
        refine RunD.ot0 (x := .v (.int .i64 (wr (a1 + 1)))) rfl rfl rfl rfl (.bin rfl rfl (fun w => b_addw w) rfl) rfl ?_
        obtain ⟨y14, h15, H⟩ := bs H
        refine RunD.ot0 (x := .v (.int .u8 y14)) rfl rfl rfl rfl (.idxS Try.underlying9 rfl rfl h15) rfl ?_
        refine RunD.ot0 (x := .v (.int .u32 (IntKind.u32.wrap y14))) rfl rfl rfl rfl (.conv rfl (fun w => c_int w ⟨_, Try.underlying5⟩ Try.underlying68) rfl) rfl ?_
        refine RunD.ot0 (x := .v (.int .u32 (IntKind.u32.wrap ((IntKind.u32.wrap y14) * 2 ^ (min (8 : Int).toNat IntKind.u32.bits))))) rfl rfl rfl rfl (.bin rfl rfl (fun w => b_shl w (by decide)) rfl) rfl ?_
        refine RunD.ot0 (x := .v (.int .u32 (IntKind.u32.wrap (((BitVec.ofInt IntKind.u32.bits (IntKind.u32.wrap y12) ||| BitVec.ofInt IntKind.u32.bits (IntKind.u32.wrap ((IntKind.u32.wrap y14) * 2 ^ (min (8 : Int).toNat IntKind.u32.bits)))).toNat : Nat) : Int)))) rfl rfl rfl rfl (.bin rfl rfl (fun w => b_or' w rfl) rfl) rfl ?_
        refine RunD.ot0 (x := .v (.string a0)) rfl rfl rfl rfl (.moveX rfl) rfl ?_
        refine RunD.ot0 (x := .v (.int .i64 a1)) rfl rfl rfl rfl (.moveX rfl) rfl ?_
        refine RunD.ot0 (x := .v (.int .i64 (wr (a1 + 2)))) rfl rfl rfl rfl (.bin rfl rfl (fun w => b_addw w) rfl) rfl ?_
        obtain ⟨y16, h17, H⟩ := bs H
        refine RunD.ot0 (x := .v (.int .u8 y16)) rfl rfl rfl rfl (.idxS Try.underlying9 rfl rfl h17) rfl ?_
        refine RunD.ot0 (x := .v (.int .u32 (IntKind.u32.wrap y16))) rfl rfl rfl rfl (.conv rfl (fun w => c_int w ⟨_, Try.underlying5⟩ Try.underlying68) rfl) rfl ?_
        refine RunD.ot0 (x := .v (.int .u32 (IntKind.u32.wrap ((IntKind.u32.wrap y16) * 2 ^ (min (16 : Int).toNat IntKind.u32.bits))))) rfl rfl rfl rfl (.bin rfl rfl (fun w => b_shl w (by decide)) rfl) rfl ?_
        refine RunD.ot0 (x := .v (.int .u32 (IntKind.u32.wrap (((BitVec.ofInt IntKind.u32.bits (IntKind.u32.wrap (((BitVec.ofInt IntKind.u32.bits (IntKind.u32.wrap y12) ||| BitVec.ofInt IntKind.u32.bits (IntKind.u32.wrap ((IntKind.u32.wrap y14) * 2 ^ (min (8 : Int).toNat IntKind.u32.bits)))).toNat : Nat) : Int)) ||| BitVec.ofInt IntKind.u32.bits (IntKind.u32.wrap ((IntKind.u32.wrap y16) * 2 ^ (min (16 : Int).toNat IntKind.u32.bits)))).toNat : Nat) : Int)))) rfl rfl rfl rfl (.bin rfl rfl (fun w => b_or' w rfl) rfl) rfl ?_
        refine RunD.ot0 (x := .v (.string a0)) rfl rfl rfl rfl (.moveX rfl) rfl ?_
        refine RunD.ot0 (x := .v (.int .i64 a1)) rfl rfl rfl rfl (.moveX rfl) rfl ?_
        refine RunD.ot0 (x := .v (.int .i64 (wr (a1 + 3)))) rfl rfl rfl rfl (.bin rfl rfl (fun w => b_addw w) rfl) rfl ?_
        obtain ⟨y18, h19, H⟩ := bs H
        refine RunD.ot0 (x := .v (.int .u8 y18)) rfl rfl rfl rfl (.idxS Try.underlying9 rfl rfl h19) rfl ?_
        refine RunD.ot0 (x := .v (.int .u32 (IntKind.u32.wrap y18))) rfl rfl rfl rfl (.conv rfl (fun w => c_int w ⟨_, Try.underlying5⟩ Try.underlying68) rfl) rfl ?_
        refine RunD.ot0 (x := .v (.int .u32 (IntKind.u32.wrap ((IntKind.u32.wrap y18) * 2 ^ (min (24 : Int).toNat IntKind.u32.bits))))) rfl rfl rfl rfl (.bin rfl rfl (fun w => b_shl w (by decide)) rfl) rfl ?_
        refine RunD.ot0 (x := .v (.int .u32 (IntKind.u32.wrap (((BitVec.ofInt IntKind.u32.bits (IntKind.u32.wrap (((BitVec.ofInt IntKind.u32.bits (IntKind.u32.wrap (((BitVec.ofInt IntKind.u32.bits (IntKind.u32.wrap y12) ||| BitVec.ofInt IntKind.u32.bits (IntKind.u32.wrap ((IntKind.u32.wrap y14) * 2 ^ (min (8 : Int).toNat IntKind.u32.bits)))).toNat : Nat) : Int)) ||| BitVec.ofInt IntKind.u32.bits (IntKind.u32.wrap ((IntKind.u32.wrap y16) * 2 ^ (min (16 : Int).toNat IntKind.u32.bits)))).toNat : Nat) : Int)) ||| BitVec.ofInt IntKind.u32.bits (IntKind.u32.wrap ((IntKind.u32.wrap y18) * 2 ^ (min (24 : Int).toNat IntKind.u32.bits)))).toNat : Nat) : Int)))) rfl rfl rfl rfl (.bin rfl rfl (fun w => b_or' w rfl) rfl) rfl ?_
        refine RunD.ot0 (x := .v (.int .u32 (IntKind.u32.wrap (((BitVec.ofInt IntKind.u32.bits (IntKind.u32.wrap (((BitVec.ofInt IntKind.u32.bits (IntKind.u32.wrap (((BitVec.ofInt IntKind.u32.bits (IntKind.u32.wrap y12) ||| BitVec.ofInt IntKind.u32.bits (IntKind.u32.wrap ((IntKind.u32.wrap y14) * 2 ^ (min (8 : Int).toNat IntKind.u32.bits)))).toNat : Nat) : Int)) ||| BitVec.ofInt IntKind.u32.bits (IntKind.u32.wrap ((IntKind.u32.wrap y16) * 2 ^ (min (16 : Int).toNat IntKind.u32.bits)))).toNat : Nat) : Int)) ||| BitVec.ofInt IntKind.u32.bits (IntKind.u32.wrap ((IntKind.u32.wrap y18) * 2 ^ (min (24 : Int).toNat IntKind.u32.bits)))).toNat : Nat) : Int)))) rfl rfl rfl rfl (.assignX rfl) rfl ?_
        refine RunD.ot0 (x := .v (.int .i64 0)) rfl rfl rfl rfl (.assignX rfl) rfl ?_
        refine RunD.nil (by kernel_rfl) ⟨rfl, rfl, ?_⟩
        obtain rfl := si H
        refine T.sub (sub_to (st' := ⟨[(4, .v (.int .u32 (IntKind.u32.wrap (((BitVec.ofInt IntKind.u32.bits (IntKind.u32.wrap (((BitVec.ofInt IntKind.u32.bits (IntKind.u32.wrap (((BitVec.ofInt IntKind.u32.bits (IntKind.u32.wrap y12) ||| BitVec.ofInt IntKind.u32.bits (IntKind.u32.wrap ((IntKind.u32.wrap y14) * 2 ^ (min (8 : Int).toNat IntKind.u32.bits)))).toNat : Nat) : Int)) ||| BitVec.ofInt IntKind.u32.bits (IntKind.u32.wrap ((IntKind.u32.wrap y16) * 2 ^ (min (16 : Int).toNat IntKind.u32.bits)))).toNat : Nat) : Int)) ||| BitVec.ofInt IntKind.u32.bits (IntKind.u32.wrap ((IntKind.u32.wrap y18) * 2 ^ (min (24 : Int).toNat IntKind.u32.bits)))).toNat : Nat) : Int)))), (5, .v (.int .i64 0))], [], 8, []⟩) [] (by decide) rfl rfl (⟨⟨_, rfl, .one .v⟩, ⟨⟨_, rfl, .one .v⟩, trivial⟩⟩) (trivial)) ?_
        refine T.ret ?_
        exact RetOk.same [.v (.int .u32 (IntKind.u32.wrap (((BitVec.ofInt IntKind.u32.bits (IntKind.u32.wrap (((BitVec.ofInt IntKind.u32.bits (IntKind.u32.wrap (((BitVec.ofInt IntKind.u32.bits (IntKind.u32.wrap y12) ||| BitVec.ofInt IntKind.u32.bits (IntKind.u32.wrap ((IntKind.u32.wrap y14) * 2 ^ (min (8 : Int).toNat IntKind.u32.bits)))).toNat : Nat) : Int)) ||| BitVec.ofInt IntKind.u32.bits (IntKind.u32.wrap ((IntKind.u32.wrap y16) * 2 ^ (min (16 : Int).toNat IntKind.u32.bits)))).toNat : Nat) : Int)) ||| BitVec.ofInt IntKind.u32.bits (IntKind.u32.wrap ((IntKind.u32.wrap y18) * 2 ^ (min (24 : Int).toNat IntKind.u32.bits)))).toNat : Nat) : Int))), .v (.int .i64 0)] ⟨rfl, rfl, trivial⟩ rfl rfl rfl
end Go.Proofs.Ytijfhnpmdhonhaa
