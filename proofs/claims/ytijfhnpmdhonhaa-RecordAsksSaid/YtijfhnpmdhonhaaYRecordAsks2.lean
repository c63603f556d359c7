/- The Go functions come to just what their plain forms come to: one contract each. -/
import Derived.Test.YtijfhnpmdhonhaaYRecordAsks1
set_option linter.unusedVariables false
set_option linter.unusedSimpArgs false
set_option maxRecDepth 100000
namespace Go.Proofs.Ytijfhnpmdhonhaa
open Go Go.Sh Go.Px
attribute [local irreducible] Go.Sh.T Go.Sh.RunT Go.Sh.RunD
set_option maxHeartbeats 4000000 in
theorem ref19_GetRecord_pc (al : Bool) (k : Nat) (a0 : ByteArray) (o : Record × Int) (H : ref19_GetRecord k a0 = some o) : PC Try.prog al 36 [.v (.string a0)] (.tup [.agg [.v (.int .i64 o.1.Kind), .v (.string o.1.Text), .v (.int .i64 o.1.Order.Id), .v (.int .i64 o.1.Order.State), .v (.int .i64 o.1.Order.Party.Size), .v (.int .i64 o.1.Order.Party.Wheels), .v (.int .i64 o.1.Order.Until), .v (.int .i64 o.1.Order.First), .v (.int .i64 o.1.Time)], .v (.int .i64 o.2)]) := by
  unfold ref19_GetRecord at H
  refine PC.of_T Try.func36 rfl rfl (n := 126) rfl rfl (.inr (flatT_tup ⟨(flatC_agg ⟨rfl, rfl, rfl, rfl, rfl, rfl, rfl, rfl, rfl, trivial⟩), rfl, trivial⟩)) ?_
  intro base B w0
  refine T.st (st' := ⟨[(0, .v (.string a0))], [], 0, []⟩) rfl ?_
  refine T.seq ?_
  refine T.region ?_
  refine RunT.ot1 (x := .ptr 0 0) (p0 := (0, some (.box [.v (.int .i64 0), .v (.string (⟨#[]⟩ : ByteArray)), .v (.int .i64 0), .v (.int .i64 0), .v (.int .i64 0), .v (.int .i64 0), .v (.int .i64 0), .v (.int .i64 0), .v (.int .i64 0)]))) (n' := 8) rfl rfl rfl rfl (.allocX in51.zero rfl rfl) rfl ?_
  refine RunT.ot0 (x := .v (.int .i64 0)) rfl rfl rfl rfl (.assignX rfl) ?_
  refine RunT.nil ?_
  refine T.seq ?_
  refine T.seq ?_
  refine T.region ?_
  refine RunT.ot0 (x := .v (.string a0)) rfl rfl rfl rfl (.moveX rfl) ?_
  refine RunT.ot0 (x := .v (.int .i64 (a0.size : Int))) rfl rfl rfl rfl (.lenV rfl (fun _ w => len_str rfl Try.underlying9 w) rfl) ?_
  refine RunT.ot0 (x := .v (.bool (decide ((a0.size : Int) = 0)))) rfl rfl rfl rfl (.bin rfl rfl (fun w => b_eql w) rfl) ?_
  refine RunT.nil ?_
  refine T.cond2 (t := decide ((a0.size : Int) = 0)) rfl (fun c1 => ?_) (fun c1 => ?_)
  · replace H := ct H c1
    refine T.seq ?_
    refine T.region ?_
    refine RunT.ot0 (x := .agg [.v (.int .i64 0), .v (.string (⟨#[]⟩ : ByteArray)), .v (.int .i64 0), .v (.int .i64 0), .v (.int .i64 0), .v (.int .i64 0), .v (.int .i64 0), .v (.int .i64 0), .v (.int .i64 0)]) rfl rfl rfl rfl (.bu bu51 rfl) ?_
    refine RunT.on1 (x := .junk) (p0 := (0, some (.box [.v (.int .i64 0), .v (.string (⟨#[]⟩ : ByteArray)), .v (.int .i64 0), .v (.int .i64 0), .v (.int .i64 0), .v (.int .i64 0), .v (.int .i64 0), .v (.int .i64 0), .v (.int .i64 0)]))) (n' := 16) rfl rfl rfl (.storePX ty51 rfl rfl rfl rfl rfl rfl rfl) rfl ?_
    refine RunT.ot0 (x := .v (.int .i64 10)) rfl rfl rfl rfl (.assignX rfl) ?_
    refine RunT.nil ?_
    obtain rfl := si H
    refine T.sub (sub_to (st' := ⟨[(2, .ptr 0 0), (3, .v (.int .i64 10))], [(0, some (.box [.v (.int .i64 0), .v (.string (⟨#[]⟩ : ByteArray)), .v (.int .i64 0), .v (.int .i64 0), .v (.int .i64 0), .v (.int .i64 0), .v (.int .i64 0), .v (.int .i64 0), .v (.int .i64 0)]))], 8, []⟩) [some 0] (by decide) rfl rfl (⟨⟨_, rfl, .one (.ptr rfl)⟩, ⟨⟨_, rfl, .one .v⟩, trivial⟩⟩) (⟨⟨rfl, .inl ⟨_, _, rfl, rfl, .box ⟨.v, .v, .v, .v, .v, .v, .v, .v, .v, trivial⟩⟩⟩, trivial⟩)) ?_
    refine T.ret ?_
    exact RetOk.same [.agg [.v (.int .i64 0), .v (.string (⟨#[]⟩ : ByteArray)), .v (.int .i64 0), .v (.int .i64 0), .v (.int .i64 0), .v (.int .i64 0), .v (.int .i64 0), .v (.int .i64 0), .v (.int .i64 0)], .v (.int .i64 10)] ⟨⟨0, 0, _, _, _, ty51, rfl, rfl, rfl⟩, rfl, trivial⟩ rfl rfl rfl
  · replace H := cf H c1
    refine T.skip ?_
    refine T.seq ?_
    refine T.region ?_
    refine RunT.ot0 (x := .v (.string a0)) rfl rfl rfl rfl (.moveX rfl) ?_
    obtain ⟨y2, h3, H⟩ := bs H
    refine RunT.ot0 (x := .v (.int .u8 y2)) rfl rfl rfl rfl (.idxS Try.underlying9 rfl rfl h3) ?_
    refine RunT.ot0 (x := .v (.int .i64 (wr y2))) rfl rfl rfl rfl (.conv rfl (fun w => c_intw w ⟨_, Try.underlying5⟩ Try.underlying3) rfl) ?_
    refine RunT.ot0 (x := .agg [.v (.int .i64 (wr y2)), .v (.string (⟨#[]⟩ : ByteArray)), .v (.int .i64 0), .v (.int .i64 0), .v (.int .i64 0), .v (.int .i64 0), .v (.int .i64 0), .v (.int .i64 0), .v (.int .i64 0)]) rfl rfl rfl rfl (.bu bu51 rfl) ?_
    refine RunT.ot1 (x := .ptr 8 0) (p0 := (8, some (.box [.v (.int .i64 0), .v (.string (⟨#[]⟩ : ByteArray)), .v (.int .i64 0), .v (.int .i64 0), .v (.int .i64 0), .v (.int .i64 0), .v (.int .i64 0), .v (.int .i64 0), .v (.int .i64 0)]))) (n' := 16) rfl rfl rfl rfl (.allocX in51.zero rfl rfl) rfl ?_
    refine RunT.on1 (x := .junk) (p0 := (8, some (.box [.v (.int .i64 (wr y2)), .v (.string (⟨#[]⟩ : ByteArray)), .v (.int .i64 0), .v (.int .i64 0), .v (.int .i64 0), .v (.int .i64 0), .v (.int .i64 0), .v (.int .i64 0), .v (.int .i64 0)]))) (n' := 24) rfl rfl rfl (.storePX ty51 rfl rfl rfl rfl rfl rfl rfl) rfl ?_
    refine RunT.nil ?_
    refine T.seq ?_
    refine T.block ?_
    refine T.seq ?_
    refine T.region ?_
    refine RunT.ot0 (x := .ptr 8 0) rfl rfl rfl rfl (.fieldPX fl51_0 rfl rfl) ?_
    refine RunT.ot0 (x := .v (.int .i64 (wr y2))) rfl rfl rfl rfl (.loadP ty3 rfl rfl rfl) ?_
    refine RunT.ot0 (x := .v (.bool (decide ((wr y2) = 1)))) rfl rfl rfl rfl (.bin rfl rfl (fun w => b_eql w) rfl) ?_
    refine RunT.ot0 (x := .v (.bool (decide ((wr y2) = 1)))) rfl rfl rfl rfl (.assignX rfl) ?_
    refine RunT.nil ?_
    obtain ⟨o36, E37, HO38⟩ := bs H
    refine T.cutE (⟨[(0, .v (.string a0)), (2, .ptr 0 0), (4, .ptr 1 0)], [(0, some (.box [.v (.int .i64 0), .v (.string (⟨#[]⟩ : ByteArray)), .v (.int .i64 0), .v (.int .i64 0), .v (.int .i64 0), .v (.int .i64 0), .v (.int .i64 0), .v (.int .i64 0), .v (.int .i64 0)])), (1, some (.box [.v (.int .i64 (wr y2)), .v (.string o36.1), .v (.int .i64 o36.2.1), .v (.int .i64 o36.2.2.1), .v (.int .i64 o36.2.2.2.1), .v (.int .i64 o36.2.2.2.2.1), .v (.int .i64 o36.2.2.2.2.2.1), .v (.int .i64 o36.2.2.2.2.2.2.1), .v (.int .i64 o36.2.2.2.2.2.2.2)]))], 8, []⟩) ?_ ?_
    · have H := E37
      refine T.cond2 (t := decide ((wr y2) = 1)) rfl (fun c39 => ?_) (fun c39 => ?_)
      · replace H := ct H c39
        refine T.sub (sub_pick [0, 2, 4] [0, 8] (st' := ⟨[(0, .v (.string a0)), (2, .ptr 0 0), (4, .ptr 8 0)], [(0, some (.box [.v (.int .i64 0), .v (.string (⟨#[]⟩ : ByteArray)), .v (.int .i64 0), .v (.int .i64 0), .v (.int .i64 0), .v (.int .i64 0), .v (.int .i64 0), .v (.int .i64 0), .v (.int .i64 0)])), (8, some (.box [.v (.int .i64 (wr y2)), .v (.string (⟨#[]⟩ : ByteArray)), .v (.int .i64 0), .v (.int .i64 0), .v (.int .i64 0), .v (.int .i64 0), .v (.int .i64 0), .v (.int .i64 0), .v (.int .i64 0)]))], 24, []⟩) rfl rfl rfl rfl rfl) ?_
        refine T.region ?_
        refine RunT.ot0 (x := .v (.string a0)) rfl rfl rfl rfl (.moveX rfl) ?_
        obtain ⟨h40, H⟩ := gs H
        refine RunT.ot0 (x := .v (.string (a0.extract (1 : Int).toNat a0.size))) rfl rfl rfl rfl (.strL Try.underlying9 rfl rfl h40) ?_
        refine RunT.ot0 (x := .ptr 8 1) rfl rfl rfl rfl (.fieldPX fl51_1 rfl rfl) ?_
        refine RunT.on1 (x := .junk) (p0 := (8, some (.box [.v (.int .i64 (wr y2)), .v (.string (a0.extract (1 : Int).toNat a0.size)), .v (.int .i64 0), .v (.int .i64 0), .v (.int .i64 0), .v (.int .i64 0), .v (.int .i64 0), .v (.int .i64 0), .v (.int .i64 0)]))) (n' := 32) rfl rfl rfl (.storePX ty9 rfl rfl rfl rfl rfl rfl rfl) rfl ?_
        refine RunT.nil ?_
        obtain rfl := si H
        exact (sub_to [some 0, some 8] (by decide) rfl rfl (⟨⟨_, rfl, .one .v⟩, ⟨⟨_, rfl, .one (.ptr rfl)⟩, ⟨⟨_, rfl, .one (.ptr rfl)⟩, trivial⟩⟩⟩) (⟨⟨rfl, .inl ⟨_, _, rfl, rfl, .box ⟨.v, .v, .v, .v, .v, .v, .v, .v, .v, trivial⟩⟩⟩, ⟨⟨rfl, .inl ⟨_, _, rfl, rfl, .box ⟨.v, .v, .v, .v, .v, .v, .v, .v, .v, trivial⟩⟩⟩, trivial⟩⟩))
      · replace H := cf H c39
        obtain ⟨o42, E43, HO44⟩ := bs H
        refine T.cut (⟨[(0, .v (.string a0)), (2, .ptr 0 0), (4, .ptr 1 0), (34, .v (.bool o42))], [(0, some (.box [.v (.int .i64 0), .v (.string (⟨#[]⟩ : ByteArray)), .v (.int .i64 0), .v (.int .i64 0), .v (.int .i64 0), .v (.int .i64 0), .v (.int .i64 0), .v (.int .i64 0), .v (.int .i64 0)])), (1, some (.box [.v (.int .i64 (wr y2)), .v (.string (⟨#[]⟩ : ByteArray)), .v (.int .i64 0), .v (.int .i64 0), .v (.int .i64 0), .v (.int .i64 0), .v (.int .i64 0), .v (.int .i64 0), .v (.int .i64 0)]))], 8, []⟩) ?_ ?_
        · have H := E43
          refine T.region ?_
          refine RunT.ot0 (x := .ptr 8 0) rfl rfl rfl rfl (.fieldPX fl51_0 rfl rfl) ?_
          refine RunT.ot0 (x := .v (.int .i64 (wr y2))) rfl rfl rfl rfl (.loadP ty3 rfl rfl rfl) ?_
          refine RunT.ot0 (x := .v (.bool (decide ((wr y2) = 2)))) rfl rfl rfl rfl (.bin rfl rfl (fun w => b_eql w) rfl) ?_
          refine RunT.ot0 (x := .v (.bool (decide ((wr y2) = 2)))) rfl rfl rfl rfl (.moveX rfl) ?_
          refine RunT.cases (t := 38) (c := decide ((wr y2) = 2)) rfl (fun g45 => ?_) (fun g45 => ?_)
          · replace H := ct H g45
            refine RunT.gt0 (x := .v (.string a0)) rfl rfl rfl (bo g45) rfl rfl (.moveX rfl) ?_
            refine RunT.gt0 (x := .v (.int .i64 (a0.size : Int))) rfl rfl rfl (bo g45) rfl rfl (.lenV rfl (fun _ w => len_str rfl Try.underlying9 w) rfl) ?_
            refine RunT.gt0 (x := .v (.bool (decide ((a0.size : Int) = 20)))) rfl rfl rfl (bo g45) rfl rfl (.bin rfl rfl (fun w => b_eql w) rfl) ?_
            refine RunT.ot0 (x := .v (.bool (decide ((a0.size : Int) = 20)))) rfl rfl rfl rfl (.pickT (bo g45) rfl) ?_
            refine RunT.ot0 (x := .v (.bool (decide ((a0.size : Int) = 20)))) rfl rfl rfl rfl (.assignX rfl) ?_
            refine RunT.nil ?_
            obtain rfl := si H
            exact (sub_to [some 0, some 8] (by decide) rfl rfl (⟨⟨_, rfl, .one .v⟩, ⟨⟨_, rfl, .one (.ptr rfl)⟩, ⟨⟨_, rfl, .one (.ptr rfl)⟩, ⟨⟨_, rfl, .one .v⟩, trivial⟩⟩⟩⟩) (⟨⟨rfl, .inl ⟨_, _, rfl, rfl, .box ⟨.v, .v, .v, .v, .v, .v, .v, .v, .v, trivial⟩⟩⟩, ⟨⟨rfl, .inl ⟨_, _, rfl, rfl, .box ⟨.v, .v, .v, .v, .v, .v, .v, .v, .v, trivial⟩⟩⟩, trivial⟩⟩))
          · replace H := cf H g45
            refine RunT.xn rfl rfl rfl (bo g45) rfl rfl ?_
            refine RunT.xn rfl rfl rfl (bo g45) rfl rfl ?_
            refine RunT.xn rfl rfl rfl (bo g45) rfl rfl ?_
            refine RunT.ot0 (x := .v (.bool false)) rfl rfl rfl rfl (.pickF (bo g45) rfl) ?_
            refine RunT.ot0 (x := .v (.bool false)) rfl rfl rfl rfl (.assignX rfl) ?_
            refine RunT.nil ?_
            obtain rfl := si H
            exact (sub_to [some 0, some 8] (by decide) rfl rfl (⟨⟨_, rfl, .one .v⟩, ⟨⟨_, rfl, .one (.ptr rfl)⟩, ⟨⟨_, rfl, .one (.ptr rfl)⟩, ⟨⟨_, rfl, .one .v⟩, trivial⟩⟩⟩⟩) (⟨⟨rfl, .inl ⟨_, _, rfl, rfl, .box ⟨.v, .v, .v, .v, .v, .v, .v, .v, .v, trivial⟩⟩⟩, ⟨⟨rfl, .inl ⟨_, _, rfl, rfl, .box ⟨.v, .v, .v, .v, .v, .v, .v, .v, .v, trivial⟩⟩⟩, trivial⟩⟩))
        · have H := HO44
          refine T.cond2 (t := o42) rfl (fun c46 => ?_) (fun c46 => ?_)
          · replace H := ct H c46
            refine T.seq ?_
            refine T.sub (sub_pick [0, 2, 4] [0, 1] (st' := ⟨[(0, .v (.string a0)), (2, .ptr 0 0), (4, .ptr 1 0)], [(0, some (.box [.v (.int .i64 0), .v (.string (⟨#[]⟩ : ByteArray)), .v (.int .i64 0), .v (.int .i64 0), .v (.int .i64 0), .v (.int .i64 0), .v (.int .i64 0), .v (.int .i64 0), .v (.int .i64 0)])), (1, some (.box [.v (.int .i64 (wr y2)), .v (.string (⟨#[]⟩ : ByteArray)), .v (.int .i64 0), .v (.int .i64 0), .v (.int .i64 0), .v (.int .i64 0), .v (.int .i64 0), .v (.int .i64 0), .v (.int .i64 0)]))], 8, []⟩) rfl rfl rfl rfl rfl) ?_
            refine T.region ?_
            refine RunT.ot0 (x := .v (.string a0)) rfl rfl rfl rfl (.moveX rfl) ?_
            obtain ⟨r47, h48, H⟩ := bs H
            refine RunT.ot0 (x := .tup [.v (.int .u32 r47.1), .v (.int .i64 r47.2)]) rfl rfl rfl rfl (.callp (ref19_Get_pc false k a0 1 r47 h48) rfl ⟨(.one .v), (.one .v), trivial⟩ rfl rfl rfl) ?_
            refine RunT.ot0 (x := .tup [.v (.int .u32 r47.1), .v (.int .i64 r47.2)]) rfl rfl rfl rfl (.moveX rfl) ?_
            refine RunT.ot0 (x := .v (.int .u32 r47.1)) rfl rfl rfl rfl (.extract rfl rfl) ?_
            refine RunT.ot0 (x := .v (.int .i64 r47.2)) rfl rfl rfl rfl (.extract rfl rfl) ?_
            refine RunT.ot0 (x := .v (.int .u32 r47.1)) rfl rfl rfl rfl (.assignX rfl) ?_
            refine RunT.ot0 (x := .v (.int .i64 r47.2)) rfl rfl rfl rfl (.assignX rfl) ?_
            refine RunT.nil ?_
            refine T.seq ?_
            refine T.region ?_
            refine RunT.ot0 (x := .v (.string a0)) rfl rfl rfl rfl (.moveX rfl) ?_
            obtain ⟨r49, h50, H⟩ := bs H
            refine RunT.ot0 (x := .tup [.v (.int .u32 r49.1), .v (.int .i64 r49.2)]) rfl rfl rfl rfl (.callp (ref19_Get_pc false k a0 8 r49 h50) rfl ⟨(.one .v), (.one .v), trivial⟩ rfl rfl rfl) ?_
            refine RunT.ot0 (x := .tup [.v (.int .u32 r49.1), .v (.int .i64 r49.2)]) rfl rfl rfl rfl (.moveX rfl) ?_
            refine RunT.ot0 (x := .v (.int .u32 r49.1)) rfl rfl rfl rfl (.extract rfl rfl) ?_
            refine RunT.ot0 (x := .v (.int .i64 r49.2)) rfl rfl rfl rfl (.extract rfl rfl) ?_
            refine RunT.ot0 (x := .v (.int .u32 r49.1)) rfl rfl rfl rfl (.assignX rfl) ?_
            refine RunT.ot0 (x := .v (.int .i64 r49.2)) rfl rfl rfl rfl (.assignX rfl) ?_
            refine RunT.nil ?_
            refine T.seq ?_
            refine T.region ?_
            refine RunT.ot0 (x := .v (.string a0)) rfl rfl rfl rfl (.moveX rfl) ?_
            obtain ⟨r51, h52, H⟩ := bs H
            refine RunT.ot0 (x := .tup [.v (.int .u32 r51.1), .v (.int .i64 r51.2)]) rfl rfl rfl rfl (.callp (ref19_Get_pc false k a0 12 r51 h52) rfl ⟨(.one .v), (.one .v), trivial⟩ rfl rfl rfl) ?_
            refine RunT.ot0 (x := .tup [.v (.int .u32 r51.1), .v (.int .i64 r51.2)]) rfl rfl rfl rfl (.moveX rfl) ?_
            refine RunT.ot0 (x := .v (.int .u32 r51.1)) rfl rfl rfl rfl (.extract rfl rfl) ?_
            refine RunT.ot0 (x := .v (.int .i64 r51.2)) rfl rfl rfl rfl (.extract rfl rfl) ?_
            refine RunT.ot0 (x := .v (.int .u32 r51.1)) rfl rfl rfl rfl (.assignX rfl) ?_
            refine RunT.ot0 (x := .v (.int .i64 r51.2)) rfl rfl rfl rfl (.assignX rfl) ?_
            refine RunT.nil ?_
            refine T.seq ?_
            refine T.sub (sub_pick [0, 2, 4, 5, 7, 9] [0, 1] (st' := ⟨[(0, .v (.string a0)), (2, .ptr 0 0), (4, .ptr 1 0), (5, .v (.int .u32 r47.1)), (7, .v (.int .u32 r49.1)), (9, .v (.int .u32 r51.1))], [(0, some (.box [.v (.int .i64 0), .v (.string (⟨#[]⟩ : ByteArray)), .v (.int .i64 0), .v (.int .i64 0), .v (.int .i64 0), .v (.int .i64 0), .v (.int .i64 0), .v (.int .i64 0), .v (.int .i64 0)])), (1, some (.box [.v (.int .i64 (wr y2)), .v (.string (⟨#[]⟩ : ByteArray)), .v (.int .i64 0), .v (.int .i64 0), .v (.int .i64 0), .v (.int .i64 0), .v (.int .i64 0), .v (.int .i64 0), .v (.int .i64 0)]))], 8, []⟩) rfl rfl rfl rfl rfl) ?_
            refine T.region ?_
            refine RunT.ot0 (x := .v (.string a0)) rfl rfl rfl rfl (.moveX rfl) ?_
            obtain ⟨r53, h54, H⟩ := bs H
            refine RunT.ot0 (x := .tup [.v (.int .u32 r53.1), .v (.int .i64 r53.2)]) rfl rfl rfl rfl (.callp (ref19_Get_pc false k a0 16 r53 h54) rfl ⟨(.one .v), (.one .v), trivial⟩ rfl rfl rfl) ?_
            refine RunT.ot0 (x := .tup [.v (.int .u32 r53.1), .v (.int .i64 r53.2)]) rfl rfl rfl rfl (.moveX rfl) ?_
            refine RunT.ot0 (x := .v (.int .u32 r53.1)) rfl rfl rfl rfl (.extract rfl rfl) ?_
            refine RunT.ot0 (x := .v (.int .i64 r53.2)) rfl rfl rfl rfl (.extract rfl rfl) ?_
            refine RunT.ot0 (x := .v (.int .u32 r53.1)) rfl rfl rfl rfl (.assignX rfl) ?_
            refine RunT.ot0 (x := .v (.int .i64 r53.2)) rfl rfl rfl rfl (.assignX rfl) ?_
            refine RunT.nil ?_
            refine T.draw (wr := [(23, [1])]) mixed rfl rfl ?_ rfl
            refine RunD.ot0 (x := .v (.int .u32 r47.1)) rfl rfl rfl rfl (.moveX rfl) rfl ?_
            refine RunD.ot0 (x := .v (.int .i64 (wr r47.1))) rfl rfl rfl rfl (.conv rfl (fun w => c_intw w ⟨_, Try.underlying68⟩ Try.underlying3) rfl) rfl ?_
            refine RunD.ot0 (x := .v (.string a0)) rfl rfl rfl rfl (.moveX rfl) rfl ?_
            obtain ⟨y61, h62, H⟩ := bs H
            refine RunD.ot0 (x := .v (.int .u8 y61)) rfl rfl rfl rfl (.idxS Try.underlying9 rfl rfl h62) rfl ?_
            refine RunD.ot0 (x := .v (.int .i64 (wr y61))) rfl rfl rfl rfl (.conv rfl (fun w => c_intw w ⟨_, Try.underlying5⟩ Try.underlying3) rfl) rfl ?_
            refine RunD.ot0 (x := .v (.string a0)) rfl rfl rfl rfl (.moveX rfl) rfl ?_
            obtain ⟨y63, h64, H⟩ := bs H
            refine RunD.ot0 (x := .v (.int .u8 y63)) rfl rfl rfl rfl (.idxS Try.underlying9 rfl rfl h64) rfl ?_
            refine RunD.ot0 (x := .v (.int .i64 (wr y63))) rfl rfl rfl rfl (.conv rfl (fun w => c_intw w ⟨_, Try.underlying5⟩ Try.underlying3) rfl) rfl ?_
            refine RunD.ot0 (x := .v (.string a0)) rfl rfl rfl rfl (.moveX rfl) rfl ?_
            obtain ⟨y65, h66, H⟩ := bs H
            refine RunD.ot0 (x := .v (.int .u8 y65)) rfl rfl rfl rfl (.idxS Try.underlying9 rfl rfl h66) rfl ?_
            refine RunD.ot0 (x := .v (.int .i64 (wr y65))) rfl rfl rfl rfl (.conv rfl (fun w => c_intw w ⟨_, Try.underlying5⟩ Try.underlying3) rfl) rfl ?_
            refine RunD.ot0 (x := .agg [.v (.int .i64 (wr y63)), .v (.int .i64 (wr y65))]) rfl rfl rfl rfl (.bu bu23 rfl) rfl ?_
            refine RunD.ot0 (x := .v (.int .u32 r49.1)) rfl rfl rfl rfl (.moveX rfl) rfl ?_
            refine RunD.ot0 (x := .v (.int .i64 (wr r49.1))) rfl rfl rfl rfl (.conv rfl (fun w => c_intw w ⟨_, Try.underlying68⟩ Try.underlying2) rfl) rfl ?_
            refine RunD.ot0 (x := .v (.int .u32 r51.1)) rfl rfl rfl rfl (.moveX rfl) rfl ?_
            refine RunD.ot0 (x := .v (.int .i64 (wr r51.1))) rfl rfl rfl rfl (.conv rfl (fun w => c_intw w ⟨_, Try.underlying68⟩ Try.underlying2) rfl) rfl ?_
            refine RunD.ot0 (x := .v (.int .i64 (IntKind.i64.wrap ((wr r51.1) * 2 ^ (min (32 : Int).toNat IntKind.i64.bits))))) rfl rfl rfl rfl (.bin rfl rfl (fun w => b_shl w (by decide)) rfl) rfl ?_
            refine RunD.ot0 (x := .v (.int .i64 (IntKind.i64.wrap (((BitVec.ofInt IntKind.i64.bits (wr r49.1) ||| BitVec.ofInt IntKind.i64.bits (IntKind.i64.wrap ((wr r51.1) * 2 ^ (min (32 : Int).toNat IntKind.i64.bits)))).toNat : Nat) : Int)))) rfl rfl rfl rfl (.bin rfl rfl (fun w => b_or' w rfl) rfl) rfl ?_
            refine RunD.ot0 (x := .v (.int .u32 r53.1)) rfl rfl rfl rfl (.moveX rfl) rfl ?_
            refine RunD.ot0 (x := .v (.int .i64 (wr r53.1))) rfl rfl rfl rfl (.conv rfl (fun w => c_intw w ⟨_, Try.underlying68⟩ Try.underlying3) rfl) rfl ?_
            refine RunD.ot0 (x := .v (.int .i64 (wr ((wr r53.1) - 1)))) rfl rfl rfl rfl (.bin rfl rfl (fun w => b_subw w) rfl) rfl ?_
            refine RunD.ot0 (x := .agg [.v (.int .i64 (wr r47.1)), .v (.int .i64 (wr y61)), .v (.int .i64 (wr y63)), .v (.int .i64 (wr y65)), .v (.int .i64 (IntKind.i64.wrap (((BitVec.ofInt IntKind.i64.bits (wr r49.1) ||| BitVec.ofInt IntKind.i64.bits (IntKind.i64.wrap ((wr r51.1) * 2 ^ (min (32 : Int).toNat IntKind.i64.bits)))).toNat : Nat) : Int))), .v (.int .i64 (wr ((wr r53.1) - 1)))]) rfl rfl rfl rfl (.bu bu49 rfl) rfl ?_
            refine RunD.ot0 (x := .ptr 1 2) rfl rfl rfl rfl (.fieldPX fl51_2 rfl rfl) rfl ?_
            refine RunD.on1 (x := .junk) (p0 := (1, some (.box [.v (.int .i64 (wr y2)), .v (.string (⟨#[]⟩ : ByteArray)), .v (.int .i64 (wr r47.1)), .v (.int .i64 (wr y61)), .v (.int .i64 (wr y63)), .v (.int .i64 (wr y65)), .v (.int .i64 (IntKind.i64.wrap (((BitVec.ofInt IntKind.i64.bits (wr r49.1) ||| BitVec.ofInt IntKind.i64.bits (IntKind.i64.wrap ((wr r51.1) * 2 ^ (min (32 : Int).toNat IntKind.i64.bits)))).toNat : Nat) : Int))), .v (.int .i64 (wr ((wr r53.1) - 1))), .v (.int .i64 0)]))) rfl rfl rfl (.storePX ty49 rfl rfl rfl rfl rfl rfl rfl) rfl ?_
            refine RunD.nil (by kernel_rfl) ⟨rfl, rfl, ?_⟩
            obtain rfl := si H
            exact (sub_to [some 0, some 1] (by decide) rfl rfl (⟨⟨_, rfl, .one .v⟩, ⟨⟨_, rfl, .one (.ptr rfl)⟩, ⟨⟨_, rfl, .one (.ptr rfl)⟩, trivial⟩⟩⟩) (⟨⟨rfl, .inl ⟨_, _, rfl, rfl, .box ⟨.v, .v, .v, .v, .v, .v, .v, .v, .v, trivial⟩⟩⟩, ⟨⟨rfl, .inl ⟨_, _, rfl, rfl, .box ⟨.v, .v, .v, .v, .v, .v, .v, .v, .v, trivial⟩⟩⟩, trivial⟩⟩))
          · replace H := cf H c46
            obtain ⟨o68, E69, HO70⟩ := bs H
            refine T.cut (⟨[(0, .v (.string a0)), (2, .ptr 0 0), (4, .ptr 1 0), (86, .v (.bool o68))], [(0, some (.box [.v (.int .i64 0), .v (.string (⟨#[]⟩ : ByteArray)), .v (.int .i64 0), .v (.int .i64 0), .v (.int .i64 0), .v (.int .i64 0), .v (.int .i64 0), .v (.int .i64 0), .v (.int .i64 0)])), (1, some (.box [.v (.int .i64 (wr y2)), .v (.string (⟨#[]⟩ : ByteArray)), .v (.int .i64 0), .v (.int .i64 0), .v (.int .i64 0), .v (.int .i64 0), .v (.int .i64 0), .v (.int .i64 0), .v (.int .i64 0)]))], 8, []⟩) ?_ ?_
            · have H := E69
              refine T.region ?_
              refine RunT.ot0 (x := .ptr 1 0) rfl rfl rfl rfl (.fieldPX fl51_0 rfl rfl) ?_
              refine RunT.ot0 (x := .v (.int .i64 (wr y2))) rfl rfl rfl rfl (.loadP ty3 rfl rfl rfl) ?_
              refine RunT.ot0 (x := .v (.bool (decide ((wr y2) = 3)))) rfl rfl rfl rfl (.bin rfl rfl (fun w => b_eql w) rfl) ?_
              refine RunT.ot0 (x := .v (.bool (decide ((wr y2) = 3)))) rfl rfl rfl rfl (.moveX rfl) ?_
              refine RunT.cases (t := 90) (c := decide ((wr y2) = 3)) rfl (fun g71 => ?_) (fun g71 => ?_)
              · replace H := ct H g71
                refine RunT.gt0 (x := .v (.string a0)) rfl rfl rfl (bo g71) rfl rfl (.moveX rfl) ?_
                refine RunT.gt0 (x := .v (.int .i64 (a0.size : Int))) rfl rfl rfl (bo g71) rfl rfl (.lenV rfl (fun _ w => len_str rfl Try.underlying9 w) rfl) ?_
                refine RunT.gt0 (x := .v (.bool (decide ((a0.size : Int) = 9)))) rfl rfl rfl (bo g71) rfl rfl (.bin rfl rfl (fun w => b_eql w) rfl) ?_
                refine RunT.ot0 (x := .v (.bool (decide ((a0.size : Int) = 9)))) rfl rfl rfl rfl (.pickT (bo g71) rfl) ?_
                refine RunT.ot0 (x := .v (.bool (decide ((a0.size : Int) = 9)))) rfl rfl rfl rfl (.assignX rfl) ?_
                refine RunT.nil ?_
                obtain rfl := si H
                exact (sub_to [some 0, some 1] (by decide) rfl rfl (⟨⟨_, rfl, .one .v⟩, ⟨⟨_, rfl, .one (.ptr rfl)⟩, ⟨⟨_, rfl, .one (.ptr rfl)⟩, ⟨⟨_, rfl, .one .v⟩, trivial⟩⟩⟩⟩) (⟨⟨rfl, .inl ⟨_, _, rfl, rfl, .box ⟨.v, .v, .v, .v, .v, .v, .v, .v, .v, trivial⟩⟩⟩, ⟨⟨rfl, .inl ⟨_, _, rfl, rfl, .box ⟨.v, .v, .v, .v, .v, .v, .v, .v, .v, trivial⟩⟩⟩, trivial⟩⟩))
              · replace H := cf H g71
                refine RunT.xn rfl rfl rfl (bo g71) rfl rfl ?_
                refine RunT.xn rfl rfl rfl (bo g71) rfl rfl ?_
                refine RunT.xn rfl rfl rfl (bo g71) rfl rfl ?_
                refine RunT.ot0 (x := .v (.bool false)) rfl rfl rfl rfl (.pickF (bo g71) rfl) ?_
                refine RunT.ot0 (x := .v (.bool false)) rfl rfl rfl rfl (.assignX rfl) ?_
                refine RunT.nil ?_
                obtain rfl := si H
                exact (sub_to [some 0, some 1] (by decide) rfl rfl (⟨⟨_, rfl, .one .v⟩, ⟨⟨_, rfl, .one (.ptr rfl)⟩, ⟨⟨_, rfl, .one (.ptr rfl)⟩, ⟨⟨_, rfl, .one .v⟩, trivial⟩⟩⟩⟩) (⟨⟨rfl, .inl ⟨_, _, rfl, rfl, .box ⟨.v, .v, .v, .v, .v, .v, .v, .v, .v, trivial⟩⟩⟩, ⟨⟨rfl, .inl ⟨_, _, rfl, rfl, .box ⟨.v, .v, .v, .v, .v, .v, .v, .v, .v, trivial⟩⟩⟩, trivial⟩⟩))
            · have H := HO70
              refine T.cond2 (t := o68) rfl (fun c72 => ?_) (fun c72 => ?_)
              · replace H := ct H c72
                refine T.seq ?_
                refine T.sub (sub_pick [0, 2, 4] [0, 1] (st' := ⟨[(0, .v (.string a0)), (2, .ptr 0 0), (4, .ptr 1 0)], [(0, some (.box [.v (.int .i64 0), .v (.string (⟨#[]⟩ : ByteArray)), .v (.int .i64 0), .v (.int .i64 0), .v (.int .i64 0), .v (.int .i64 0), .v (.int .i64 0), .v (.int .i64 0), .v (.int .i64 0)])), (1, some (.box [.v (.int .i64 (wr y2)), .v (.string (⟨#[]⟩ : ByteArray)), .v (.int .i64 0), .v (.int .i64 0), .v (.int .i64 0), .v (.int .i64 0), .v (.int .i64 0), .v (.int .i64 0), .v (.int .i64 0)]))], 8, []⟩) rfl rfl rfl rfl rfl) ?_
                refine T.region ?_
                refine RunT.ot0 (x := .v (.string a0)) rfl rfl rfl rfl (.moveX rfl) ?_
                obtain ⟨r73, h74, H⟩ := bs H
                refine RunT.ot0 (x := .tup [.v (.int .u32 r73.1), .v (.int .i64 r73.2)]) rfl rfl rfl rfl (.callp (ref19_Get_pc false k a0 1 r73 h74) rfl ⟨(.one .v), (.one .v), trivial⟩ rfl rfl rfl) ?_
                refine RunT.ot0 (x := .tup [.v (.int .u32 r73.1), .v (.int .i64 r73.2)]) rfl rfl rfl rfl (.moveX rfl) ?_
                refine RunT.ot0 (x := .v (.int .u32 r73.1)) rfl rfl rfl rfl (.extract rfl rfl) ?_
                refine RunT.ot0 (x := .v (.int .i64 r73.2)) rfl rfl rfl rfl (.extract rfl rfl) ?_
                refine RunT.ot0 (x := .v (.int .u32 r73.1)) rfl rfl rfl rfl (.assignX rfl) ?_
                refine RunT.ot0 (x := .v (.int .i64 r73.2)) rfl rfl rfl rfl (.assignX rfl) ?_
                refine RunT.nil ?_
                refine T.seq ?_
                refine T.region ?_
                refine RunT.ot0 (x := .v (.string a0)) rfl rfl rfl rfl (.moveX rfl) ?_
                obtain ⟨r75, h76, H⟩ := bs H
                refine RunT.ot0 (x := .tup [.v (.int .u32 r75.1), .v (.int .i64 r75.2)]) rfl rfl rfl rfl (.callp (ref19_Get_pc false k a0 5 r75 h76) rfl ⟨(.one .v), (.one .v), trivial⟩ rfl rfl rfl) ?_
                refine RunT.ot0 (x := .tup [.v (.int .u32 r75.1), .v (.int .i64 r75.2)]) rfl rfl rfl rfl (.moveX rfl) ?_
                refine RunT.ot0 (x := .v (.int .u32 r75.1)) rfl rfl rfl rfl (.extract rfl rfl) ?_
                refine RunT.ot0 (x := .v (.int .i64 r75.2)) rfl rfl rfl rfl (.extract rfl rfl) ?_
                refine RunT.ot0 (x := .v (.int .u32 r75.1)) rfl rfl rfl rfl (.assignX rfl) ?_
                refine RunT.ot0 (x := .v (.int .i64 r75.2)) rfl rfl rfl rfl (.assignX rfl) ?_
                refine RunT.nil ?_
                refine T.region ?_
                refine RunT.ot0 (x := .v (.int .u32 r73.1)) rfl rfl rfl rfl (.moveX rfl) ?_
                refine RunT.ot0 (x := .v (.int .i64 (wr r73.1))) rfl rfl rfl rfl (.conv rfl (fun w => c_intw w ⟨_, Try.underlying68⟩ Try.underlying2) rfl) ?_
                refine RunT.ot0 (x := .v (.int .u32 r75.1)) rfl rfl rfl rfl (.moveX rfl) ?_
                refine RunT.ot0 (x := .v (.int .i64 (wr r75.1))) rfl rfl rfl rfl (.conv rfl (fun w => c_intw w ⟨_, Try.underlying68⟩ Try.underlying2) rfl) ?_
                refine RunT.ot0 (x := .v (.int .i64 (IntKind.i64.wrap ((wr r75.1) * 2 ^ (min (32 : Int).toNat IntKind.i64.bits))))) rfl rfl rfl rfl (.bin rfl rfl (fun w => b_shl w (by decide)) rfl) ?_
                refine RunT.ot0 (x := .v (.int .i64 (IntKind.i64.wrap (((BitVec.ofInt IntKind.i64.bits (wr r73.1) ||| BitVec.ofInt IntKind.i64.bits (IntKind.i64.wrap ((wr r75.1) * 2 ^ (min (32 : Int).toNat IntKind.i64.bits)))).toNat : Nat) : Int)))) rfl rfl rfl rfl (.bin rfl rfl (fun w => b_or' w rfl) rfl) ?_
                refine RunT.ot0 (x := .ptr 1 8) rfl rfl rfl rfl (.fieldPX fl51_3 rfl rfl) ?_
                refine RunT.on1 (x := .junk) (p0 := (1, some (.box [.v (.int .i64 (wr y2)), .v (.string (⟨#[]⟩ : ByteArray)), .v (.int .i64 0), .v (.int .i64 0), .v (.int .i64 0), .v (.int .i64 0), .v (.int .i64 0), .v (.int .i64 0), .v (.int .i64 (IntKind.i64.wrap (((BitVec.ofInt IntKind.i64.bits (wr r73.1) ||| BitVec.ofInt IntKind.i64.bits (IntKind.i64.wrap ((wr r75.1) * 2 ^ (min (32 : Int).toNat IntKind.i64.bits)))).toNat : Nat) : Int)))]))) (n' := 16) rfl rfl rfl (.storePX ty2 rfl rfl rfl rfl rfl rfl rfl) rfl ?_
                refine RunT.nil ?_
                obtain rfl := si H
                exact (sub_to [some 0, some 1] (by decide) rfl rfl (⟨⟨_, rfl, .one .v⟩, ⟨⟨_, rfl, .one (.ptr rfl)⟩, ⟨⟨_, rfl, .one (.ptr rfl)⟩, trivial⟩⟩⟩) (⟨⟨rfl, .inl ⟨_, _, rfl, rfl, .box ⟨.v, .v, .v, .v, .v, .v, .v, .v, .v, trivial⟩⟩⟩, ⟨⟨rfl, .inl ⟨_, _, rfl, rfl, .box ⟨.v, .v, .v, .v, .v, .v, .v, .v, .v, trivial⟩⟩⟩, trivial⟩⟩))
              · replace H := cf H c72
                refine T.skip ?_
                obtain rfl := si H
                exact (sub_to [some 0, some 1] (by decide) rfl rfl (⟨⟨_, rfl, .one .v⟩, ⟨⟨_, rfl, .one (.ptr rfl)⟩, ⟨⟨_, rfl, .one (.ptr rfl)⟩, trivial⟩⟩⟩) (⟨⟨rfl, .inl ⟨_, _, rfl, rfl, .box ⟨.v, .v, .v, .v, .v, .v, .v, .v, .v, trivial⟩⟩⟩, ⟨⟨rfl, .inl ⟨_, _, rfl, rfl, .box ⟨.v, .v, .v, .v, .v, .v, .v, .v, .v, trivial⟩⟩⟩, trivial⟩⟩))
    · intro s hS
      have H := HO38
      refine T.sub hS ?_
      refine T.seq ?_
      refine T.seq ?_
      refine T.sub (sub_pick [0, 2, 4] [0, 1] (st' := ⟨[(0, .v (.string a0)), (2, .ptr 0 0), (4, .ptr 1 0)], [(0, some (.box [.v (.int .i64 0), .v (.string (⟨#[]⟩ : ByteArray)), .v (.int .i64 0), .v (.int .i64 0), .v (.int .i64 0), .v (.int .i64 0), .v (.int .i64 0), .v (.int .i64 0), .v (.int .i64 0)])), (1, some (.box [.v (.int .i64 (wr y2)), .v (.string o36.1), .v (.int .i64 o36.2.1), .v (.int .i64 o36.2.2.1), .v (.int .i64 o36.2.2.2.1), .v (.int .i64 o36.2.2.2.2.1), .v (.int .i64 o36.2.2.2.2.2.1), .v (.int .i64 o36.2.2.2.2.2.2.1), .v (.int .i64 o36.2.2.2.2.2.2.2)]))], 8, []⟩) rfl rfl rfl rfl rfl) ?_
      refine T.region ?_
      refine RunT.ot0 (x := .agg [.v (.int .i64 (wr y2)), .v (.string o36.1), .v (.int .i64 o36.2.1), .v (.int .i64 o36.2.2.1), .v (.int .i64 o36.2.2.2.1), .v (.int .i64 o36.2.2.2.2.1), .v (.int .i64 o36.2.2.2.2.2.1), .v (.int .i64 o36.2.2.2.2.2.2.1), .v (.int .i64 o36.2.2.2.2.2.2.2)]) rfl rfl rfl rfl (.loadP ty51 rfl rfl rfl) ?_
      obtain ⟨r77, h78, H⟩ := bs H
      refine RunT.ot0 (x := .tup [.v (.string r77.1), .v (.int .i64 r77.2)]) rfl rfl rfl rfl (.callp (ref19_PutRecord_pc false k (Record.mk (wr y2) o36.1 (Order.mk o36.2.1 o36.2.2.1 (Party.mk o36.2.2.2.1 o36.2.2.2.2.1) o36.2.2.2.2.2.1 o36.2.2.2.2.2.2.1) o36.2.2.2.2.2.2.2) r77 h78) rfl ⟨(.agg' ⟨.v, .v, .v, .v, .v, .v, .v, .v, .v, trivial⟩), trivial⟩ rfl rfl rfl) ?_
      refine RunT.ot0 (x := .tup [.v (.string r77.1), .v (.int .i64 r77.2)]) rfl rfl rfl rfl (.moveX rfl) ?_
      refine RunT.ot0 (x := .v (.string r77.1)) rfl rfl rfl rfl (.extract rfl rfl) ?_
      refine RunT.ot0 (x := .v (.int .i64 r77.2)) rfl rfl rfl rfl (.extract rfl rfl) ?_
      refine RunT.ot0 (x := .v (.string r77.1)) rfl rfl rfl rfl (.assignX rfl) ?_
      refine RunT.ot0 (x := .v (.int .i64 r77.2)) rfl rfl rfl rfl (.assignX rfl) ?_
      refine RunT.nil ?_
      refine T.seq ?_
      refine T.region ?_
      refine RunT.ot0 (x := .v (.int .i64 r77.2)) rfl rfl rfl rfl (.moveX rfl) ?_
      refine RunT.ot0 (x := .v (.bool (!decide (r77.2 = 0)))) rfl rfl rfl rfl (.bin rfl rfl (fun w => b_neq w) rfl) ?_
      refine RunT.ot0 (x := .v (.bool (!decide (r77.2 = 0)))) rfl rfl rfl rfl (.moveX rfl) ?_
      refine RunT.cases (t := 119) (c := !decide (r77.2 = 0)) rfl (fun g79 => ?_) (fun g79 => ?_)
      · replace H := ct H g79
        refine RunT.xn rfl rfl rfl (bo g79) rfl rfl ?_
        refine RunT.xn rfl rfl rfl (bo g79) rfl rfl ?_
        refine RunT.xn rfl rfl rfl (bo g79) rfl rfl ?_
        refine RunT.ot0 (x := .v (.bool true)) rfl rfl rfl rfl (.pickT (bo g79) rfl) ?_
        refine RunT.nil ?_
        refine T.condT rfl ?_
        refine T.seq ?_
        refine T.region ?_
        refine RunT.ot0 (x := .agg [.v (.int .i64 0), .v (.string (⟨#[]⟩ : ByteArray)), .v (.int .i64 0), .v (.int .i64 0), .v (.int .i64 0), .v (.int .i64 0), .v (.int .i64 0), .v (.int .i64 0), .v (.int .i64 0)]) rfl rfl rfl rfl (.bu bu51 rfl) ?_
        refine RunT.on1 (x := .junk) (p0 := (0, some (.box [.v (.int .i64 0), .v (.string (⟨#[]⟩ : ByteArray)), .v (.int .i64 0), .v (.int .i64 0), .v (.int .i64 0), .v (.int .i64 0), .v (.int .i64 0), .v (.int .i64 0), .v (.int .i64 0)]))) (n' := 16) rfl rfl rfl (.storePX ty51 rfl rfl rfl rfl rfl rfl rfl) rfl ?_
        refine RunT.ot0 (x := .v (.int .i64 10)) rfl rfl rfl rfl (.assignX rfl) ?_
        refine RunT.nil ?_
        obtain rfl := si H
        refine T.sub (sub_to (st' := ⟨[(2, .ptr 0 0), (3, .v (.int .i64 10))], [(0, some (.box [.v (.int .i64 0), .v (.string (⟨#[]⟩ : ByteArray)), .v (.int .i64 0), .v (.int .i64 0), .v (.int .i64 0), .v (.int .i64 0), .v (.int .i64 0), .v (.int .i64 0), .v (.int .i64 0)]))], 8, []⟩) [some 0] (by decide) rfl rfl (⟨⟨_, rfl, .one (.ptr rfl)⟩, ⟨⟨_, rfl, .one .v⟩, trivial⟩⟩) (⟨⟨rfl, .inl ⟨_, _, rfl, rfl, .box ⟨.v, .v, .v, .v, .v, .v, .v, .v, .v, trivial⟩⟩⟩, trivial⟩)) ?_
        refine T.ret ?_
        exact RetOk.same [.agg [.v (.int .i64 0), .v (.string (⟨#[]⟩ : ByteArray)), .v (.int .i64 0), .v (.int .i64 0), .v (.int .i64 0), .v (.int .i64 0), .v (.int .i64 0), .v (.int .i64 0), .v (.int .i64 0)], .v (.int .i64 10)] ⟨⟨0, 0, _, _, _, ty51, rfl, rfl, rfl⟩, rfl, trivial⟩ rfl rfl rfl
      · replace H := cf H g79
        refine RunT.gt0 (x := .v (.string r77.1)) rfl rfl rfl (bo g79) rfl rfl (.moveX rfl) ?_
        refine RunT.gt0 (x := .v (.string a0)) rfl rfl rfl (bo g79) rfl rfl (.moveX rfl) ?_
        refine RunT.gt0 (x := .v (.bool (!(r77.1 == a0)))) rfl rfl rfl (bo g79) rfl rfl (.bin rfl rfl (fun w => neStr w) rfl) ?_
        refine RunT.ot0 (x := .v (.bool (!(r77.1 == a0)))) rfl rfl rfl rfl (.pickF (bo g79) rfl) ?_
        refine RunT.nil ?_
        refine T.cond2 (t := !(r77.1 == a0)) rfl (fun c80 => ?_) (fun c80 => ?_)
        · replace H := ct H c80
          refine T.seq ?_
          refine T.sub (sub_pick [2] [0] (st' := ⟨[(2, .ptr 0 0)], [(0, some (.box [.v (.int .i64 0), .v (.string (⟨#[]⟩ : ByteArray)), .v (.int .i64 0), .v (.int .i64 0), .v (.int .i64 0), .v (.int .i64 0), .v (.int .i64 0), .v (.int .i64 0), .v (.int .i64 0)]))], 8, []⟩) rfl rfl rfl rfl rfl) ?_
          refine T.region ?_
          refine RunT.ot0 (x := .agg [.v (.int .i64 0), .v (.string (⟨#[]⟩ : ByteArray)), .v (.int .i64 0), .v (.int .i64 0), .v (.int .i64 0), .v (.int .i64 0), .v (.int .i64 0), .v (.int .i64 0), .v (.int .i64 0)]) rfl rfl rfl rfl (.bu bu51 rfl) ?_
          refine RunT.on1 (x := .junk) (p0 := (0, some (.box [.v (.int .i64 0), .v (.string (⟨#[]⟩ : ByteArray)), .v (.int .i64 0), .v (.int .i64 0), .v (.int .i64 0), .v (.int .i64 0), .v (.int .i64 0), .v (.int .i64 0), .v (.int .i64 0)]))) (n' := 16) rfl rfl rfl (.storePX ty51 rfl rfl rfl rfl rfl rfl rfl) rfl ?_
          refine RunT.ot0 (x := .v (.int .i64 10)) rfl rfl rfl rfl (.assignX rfl) ?_
          refine RunT.nil ?_
          obtain rfl := si H
          refine T.sub (sub_to (st' := ⟨[(2, .ptr 0 0), (3, .v (.int .i64 10))], [(0, some (.box [.v (.int .i64 0), .v (.string (⟨#[]⟩ : ByteArray)), .v (.int .i64 0), .v (.int .i64 0), .v (.int .i64 0), .v (.int .i64 0), .v (.int .i64 0), .v (.int .i64 0), .v (.int .i64 0)]))], 8, []⟩) [some 0] (by decide) rfl rfl (⟨⟨_, rfl, .one (.ptr rfl)⟩, ⟨⟨_, rfl, .one .v⟩, trivial⟩⟩) (⟨⟨rfl, .inl ⟨_, _, rfl, rfl, .box ⟨.v, .v, .v, .v, .v, .v, .v, .v, .v, trivial⟩⟩⟩, trivial⟩)) ?_
          refine T.ret ?_
          exact RetOk.same [.agg [.v (.int .i64 0), .v (.string (⟨#[]⟩ : ByteArray)), .v (.int .i64 0), .v (.int .i64 0), .v (.int .i64 0), .v (.int .i64 0), .v (.int .i64 0), .v (.int .i64 0), .v (.int .i64 0)], .v (.int .i64 10)] ⟨⟨0, 0, _, _, _, ty51, rfl, rfl, rfl⟩, rfl, trivial⟩ rfl rfl rfl
        · replace H := cf H c80
          refine T.skip ?_
          refine T.seq ?_
          refine T.region ?_
          refine RunT.ot0 (x := .agg [.v (.int .i64 (wr y2)), .v (.string o36.1), .v (.int .i64 o36.2.1), .v (.int .i64 o36.2.2.1), .v (.int .i64 o36.2.2.2.1), .v (.int .i64 o36.2.2.2.2.1), .v (.int .i64 o36.2.2.2.2.2.1), .v (.int .i64 o36.2.2.2.2.2.2.1), .v (.int .i64 o36.2.2.2.2.2.2.2)]) rfl rfl rfl rfl (.loadP ty51 rfl rfl rfl) ?_
          refine RunT.on1 (x := .junk) (p0 := (0, some (.box [.v (.int .i64 (wr y2)), .v (.string o36.1), .v (.int .i64 o36.2.1), .v (.int .i64 o36.2.2.1), .v (.int .i64 o36.2.2.2.1), .v (.int .i64 o36.2.2.2.2.1), .v (.int .i64 o36.2.2.2.2.2.1), .v (.int .i64 o36.2.2.2.2.2.2.1), .v (.int .i64 o36.2.2.2.2.2.2.2)]))) (n' := 16) rfl rfl rfl (.storePX ty51 rfl rfl rfl rfl rfl rfl rfl) rfl ?_
          refine RunT.ot0 (x := .v (.int .i64 0)) rfl rfl rfl rfl (.assignX rfl) ?_
          refine RunT.nil ?_
          obtain rfl := si H
          refine T.sub (sub_to (st' := ⟨[(2, .ptr 0 0), (3, .v (.int .i64 0))], [(0, some (.box [.v (.int .i64 (wr y2)), .v (.string o36.1), .v (.int .i64 o36.2.1), .v (.int .i64 o36.2.2.1), .v (.int .i64 o36.2.2.2.1), .v (.int .i64 o36.2.2.2.2.1), .v (.int .i64 o36.2.2.2.2.2.1), .v (.int .i64 o36.2.2.2.2.2.2.1), .v (.int .i64 o36.2.2.2.2.2.2.2)]))], 8, []⟩) [some 0] (by decide) rfl rfl (⟨⟨_, rfl, .one (.ptr rfl)⟩, ⟨⟨_, rfl, .one .v⟩, trivial⟩⟩) (⟨⟨rfl, .inl ⟨_, _, rfl, rfl, .box ⟨.v, .v, .v, .v, .v, .v, .v, .v, .v, trivial⟩⟩⟩, trivial⟩)) ?_
          refine T.ret ?_
          exact RetOk.same [.agg [.v (.int .i64 (wr y2)), .v (.string o36.1), .v (.int .i64 o36.2.1), .v (.int .i64 o36.2.2.1), .v (.int .i64 o36.2.2.2.1), .v (.int .i64 o36.2.2.2.2.1), .v (.int .i64 o36.2.2.2.2.2.1), .v (.int .i64 o36.2.2.2.2.2.2.1), .v (.int .i64 o36.2.2.2.2.2.2.2)], .v (.int .i64 0)] ⟨⟨0, 0, _, _, _, ty51, rfl, rfl, rfl⟩, rfl, trivial⟩ rfl rfl rfl
set_option maxHeartbeats 4000000 in
theorem law22_RecordAsks_pc (al : Bool) (k : Nat) (a0 : Record) (a1 : Record) (a2 : (List Int)) (o : Bool) (H : law22_RecordAsks k a0 a1 a2 = some o) : PC Try.prog al 10 [.agg [.v (.int .i64 a0.Kind), .v (.string a0.Text), .v (.int .i64 a0.Order.Id), .v (.int .i64 a0.Order.State), .v (.int .i64 a0.Order.Party.Size), .v (.int .i64 a0.Order.Party.Wheels), .v (.int .i64 a0.Order.Until), .v (.int .i64 a0.Order.First), .v (.int .i64 a0.Time)], .agg [.v (.int .i64 a1.Kind), .v (.string a1.Text), .v (.int .i64 a1.Order.Id), .v (.int .i64 a1.Order.State), .v (.int .i64 a1.Order.Party.Size), .v (.int .i64 a1.Order.Party.Wheels), .v (.int .i64 a1.Order.Until), .v (.int .i64 a1.Order.First), .v (.int .i64 a1.Time)], .lst (List.map eU8 a2)] (.v (.bool o)) := by
  unfold law22_RecordAsks at H
  refine PC.of_T Try.func10 rfl rfl (n := 90) rfl rfl (.inr rfl) ?_
  intro base B w0
  refine T.st (st' := ⟨[(0, .agg [.v (.int .i64 a0.Kind), .v (.string a0.Text), .v (.int .i64 a0.Order.Id), .v (.int .i64 a0.Order.State), .v (.int .i64 a0.Order.Party.Size), .v (.int .i64 a0.Order.Party.Wheels), .v (.int .i64 a0.Order.Until), .v (.int .i64 a0.Order.First), .v (.int .i64 a0.Time)]), (1, .agg [.v (.int .i64 a1.Kind), .v (.string a1.Text), .v (.int .i64 a1.Order.Id), .v (.int .i64 a1.Order.State), .v (.int .i64 a1.Order.Party.Size), .v (.int .i64 a1.Order.Party.Wheels), .v (.int .i64 a1.Order.Until), .v (.int .i64 a1.Order.First), .v (.int .i64 a1.Time)]), (2, .lst (List.map eU8 a2))], [], 0, []⟩) rfl ?_
  refine T.seq ?_
  refine T.region ?_
  refine RunT.ot1 (x := .ptr 0 0) (p0 := (0, some (.box [.v (.int .i64 a0.Kind), .v (.string a0.Text), .v (.int .i64 a0.Order.Id), .v (.int .i64 a0.Order.State), .v (.int .i64 a0.Order.Party.Size), .v (.int .i64 a0.Order.Party.Wheels), .v (.int .i64 a0.Order.Until), .v (.int .i64 a0.Order.First), .v (.int .i64 a0.Time)]))) (n' := 8) rfl rfl rfl rfl (.boxX rfl rfl rfl) rfl ?_
  refine RunT.ot1 (x := .ptr 8 0) (p0 := (8, some (.box [.v (.int .i64 a1.Kind), .v (.string a1.Text), .v (.int .i64 a1.Order.Id), .v (.int .i64 a1.Order.State), .v (.int .i64 a1.Order.Party.Size), .v (.int .i64 a1.Order.Party.Wheels), .v (.int .i64 a1.Order.Until), .v (.int .i64 a1.Order.First), .v (.int .i64 a1.Time)]))) (n' := 16) rfl rfl rfl rfl (.boxX rfl rfl rfl) rfl ?_
  refine RunT.ot0 (x := .v (.bool false)) rfl rfl rfl rfl (.assignX rfl) ?_
  refine RunT.nil ?_
  refine T.seq ?_
  obtain ⟨o3, E4, HO5⟩ := bs H
  refine T.cut (⟨[(2, .lst (List.map eU8 a2)), (3, .ptr 0 0), (4, .ptr 1 0), (29, .v (.bool o3))], [(0, some (.box [.v (.int .i64 a0.Kind), .v (.string a0.Text), .v (.int .i64 a0.Order.Id), .v (.int .i64 a0.Order.State), .v (.int .i64 a0.Order.Party.Size), .v (.int .i64 a0.Order.Party.Wheels), .v (.int .i64 a0.Order.Until), .v (.int .i64 a0.Order.First), .v (.int .i64 a0.Time)])), (1, some (.box [.v (.int .i64 a1.Kind), .v (.string a1.Text), .v (.int .i64 a1.Order.Id), .v (.int .i64 a1.Order.State), .v (.int .i64 a1.Order.Party.Size), .v (.int .i64 a1.Order.Party.Wheels), .v (.int .i64 a1.Order.Until), .v (.int .i64 a1.Order.First), .v (.int .i64 a1.Time)]))], 8, []⟩) ?_ ?_
  · have H := E4
    refine T.sub (sub_pick [2, 3, 4] [0, 8] (st' := ⟨[(2, .lst (List.map eU8 a2)), (3, .ptr 0 0), (4, .ptr 8 0)], [(0, some (.box [.v (.int .i64 a0.Kind), .v (.string a0.Text), .v (.int .i64 a0.Order.Id), .v (.int .i64 a0.Order.State), .v (.int .i64 a0.Order.Party.Size), .v (.int .i64 a0.Order.Party.Wheels), .v (.int .i64 a0.Order.Until), .v (.int .i64 a0.Order.First), .v (.int .i64 a0.Time)])), (8, some (.box [.v (.int .i64 a1.Kind), .v (.string a1.Text), .v (.int .i64 a1.Order.Id), .v (.int .i64 a1.Order.State), .v (.int .i64 a1.Order.Party.Size), .v (.int .i64 a1.Order.Party.Wheels), .v (.int .i64 a1.Order.Until), .v (.int .i64 a1.Order.First), .v (.int .i64 a1.Time)]))], 16, []⟩) rfl rfl rfl rfl rfl) ?_
    refine T.region ?_
    refine RunT.ot0 (x := .ptr 0 1) rfl rfl rfl rfl (.fieldPX fl51_1 rfl rfl) ?_
    refine RunT.ot0 (x := .v (.string a0.Text)) rfl rfl rfl rfl (.loadP ty9 rfl rfl rfl) ?_
    refine RunT.ot0 (x := .v (.int .i64 (a0.Text.size : Int))) rfl rfl rfl rfl (.lenV rfl (fun _ w => len_str rfl Try.underlying9 w) rfl) ?_
    refine RunT.ot0 (x := .v (.bool (decide (200 < (a0.Text.size : Int))))) rfl rfl rfl rfl (.bin rfl rfl (fun w => b_gtr w) rfl) ?_
    refine RunT.ot0 (x := .v (.bool (decide (200 < (a0.Text.size : Int))))) rfl rfl rfl rfl (.moveX rfl) ?_
    refine RunT.cases (t := 19) (c := decide (200 < (a0.Text.size : Int))) rfl (fun g6 => ?_) (fun g6 => ?_)
    · replace H := ct H g6
      refine RunT.xn rfl rfl rfl (bo g6) rfl rfl ?_
      refine RunT.xn rfl rfl rfl (bo g6) rfl rfl ?_
      refine RunT.xn rfl rfl rfl (bo g6) rfl rfl ?_
      refine RunT.xn rfl rfl rfl (bo g6) rfl rfl ?_
      refine RunT.ot0 (x := .v (.bool true)) rfl rfl rfl rfl (.pickT (bo g6) rfl) ?_
      refine RunT.ot0 (x := .v (.bool true)) rfl rfl rfl rfl (.moveX rfl) ?_
      refine RunT.xn rfl rfl rfl rfl rfl rfl ?_
      refine RunT.xn rfl rfl rfl rfl rfl rfl ?_
      refine RunT.xn rfl rfl rfl rfl rfl rfl ?_
      refine RunT.ot0 (x := .v (.bool true)) rfl rfl rfl rfl (.pickT rfl rfl) ?_
      refine RunT.nil ?_
      obtain rfl := si H
      exact (sub_to [some 0, some 8] (by decide) rfl rfl (⟨⟨_, rfl, .one .lst⟩, ⟨⟨_, rfl, .one (.ptr rfl)⟩, ⟨⟨_, rfl, .one (.ptr rfl)⟩, ⟨⟨_, rfl, .one .v⟩, trivial⟩⟩⟩⟩) (⟨⟨rfl, .inl ⟨_, _, rfl, rfl, .box ⟨.v, .v, .v, .v, .v, .v, .v, .v, .v, trivial⟩⟩⟩, ⟨⟨rfl, .inl ⟨_, _, rfl, rfl, .box ⟨.v, .v, .v, .v, .v, .v, .v, .v, .v, trivial⟩⟩⟩, trivial⟩⟩))
    · replace H := cf H g6
      refine RunT.gt0 (x := .ptr 8 1) rfl rfl rfl (bo g6) rfl rfl (.fieldPX fl51_1 rfl rfl) ?_
      refine RunT.gt0 (x := .v (.string a1.Text)) rfl rfl rfl (bo g6) rfl rfl (.loadP ty9 rfl rfl rfl) ?_
      refine RunT.gt0 (x := .v (.int .i64 (a1.Text.size : Int))) rfl rfl rfl (bo g6) rfl rfl (.lenV rfl (fun _ w => len_str rfl Try.underlying9 w) rfl) ?_
      refine RunT.gt0 (x := .v (.bool (decide (200 < (a1.Text.size : Int))))) rfl rfl rfl (bo g6) rfl rfl (.bin rfl rfl (fun w => b_gtr w) rfl) ?_
      refine RunT.ot0 (x := .v (.bool (decide (200 < (a1.Text.size : Int))))) rfl rfl rfl rfl (.pickF (bo g6) rfl) ?_
      refine RunT.ot0 (x := .v (.bool (decide (200 < (a1.Text.size : Int))))) rfl rfl rfl rfl (.moveX rfl) ?_
      refine RunT.cases (t := 25) (c := decide (200 < (a1.Text.size : Int))) rfl (fun g7 => ?_) (fun g7 => ?_)
      · replace H := ct H g7
        refine RunT.xn rfl rfl rfl (bo g7) rfl rfl ?_
        refine RunT.xn rfl rfl rfl (bo g7) rfl rfl ?_
        refine RunT.xn rfl rfl rfl (bo g7) rfl rfl ?_
        refine RunT.ot0 (x := .v (.bool true)) rfl rfl rfl rfl (.pickT (bo g7) rfl) ?_
        refine RunT.nil ?_
        obtain rfl := si H
        exact (sub_to [some 0, some 8] (by decide) rfl rfl (⟨⟨_, rfl, .one .lst⟩, ⟨⟨_, rfl, .one (.ptr rfl)⟩, ⟨⟨_, rfl, .one (.ptr rfl)⟩, ⟨⟨_, rfl, .one .v⟩, trivial⟩⟩⟩⟩) (⟨⟨rfl, .inl ⟨_, _, rfl, rfl, .box ⟨.v, .v, .v, .v, .v, .v, .v, .v, .v, trivial⟩⟩⟩, ⟨⟨rfl, .inl ⟨_, _, rfl, rfl, .box ⟨.v, .v, .v, .v, .v, .v, .v, .v, .v, trivial⟩⟩⟩, trivial⟩⟩))
      · replace H := cf H g7
        refine RunT.gt0 (x := .lst (List.map eU8 a2)) rfl rfl rfl (bo g7) rfl rfl (.moveX rfl) ?_
        refine RunT.gt0 (x := .v (.int .i64 (a2.length : Int))) rfl rfl rfl (bo g7) rfl rfl (.lenLm Try.underlying35 rfl rfl) ?_
        refine RunT.gt0 (x := .v (.bool (decide (100 < (a2.length : Int))))) rfl rfl rfl (bo g7) rfl rfl (.bin rfl rfl (fun w => b_gtr w) rfl) ?_
        refine RunT.ot0 (x := .v (.bool (decide (100 < (a2.length : Int))))) rfl rfl rfl rfl (.pickF (bo g7) rfl) ?_
        refine RunT.nil ?_
        obtain rfl := si H
        exact (sub_to [some 0, some 8] (by decide) rfl rfl (⟨⟨_, rfl, .one .lst⟩, ⟨⟨_, rfl, .one (.ptr rfl)⟩, ⟨⟨_, rfl, .one (.ptr rfl)⟩, ⟨⟨_, rfl, .one .v⟩, trivial⟩⟩⟩⟩) (⟨⟨rfl, .inl ⟨_, _, rfl, rfl, .box ⟨.v, .v, .v, .v, .v, .v, .v, .v, .v, trivial⟩⟩⟩, ⟨⟨rfl, .inl ⟨_, _, rfl, rfl, .box ⟨.v, .v, .v, .v, .v, .v, .v, .v, .v, trivial⟩⟩⟩, trivial⟩⟩))
  · have H := HO5
    refine T.cond2 (t := o3) rfl (fun c8 => ?_) (fun c8 => ?_)
    · replace H := ct H c8
      refine T.seq ?_
      refine T.sub (sub_pick [] [] (st' := ⟨[], [], 8, []⟩) rfl rfl rfl rfl rfl) ?_
      refine T.region ?_
      obtain ⟨r9, h10, H⟩ := bs H
      refine RunT.ot0 (x := .v (.bool r9)) rfl rfl rfl rfl (.callp (law22_told_pc false k  r9 h10) rfl trivial rfl rfl rfl) ?_
      refine RunT.ot0 (x := .v (.bool r9)) rfl rfl rfl rfl (.assignX rfl) ?_
      refine RunT.nil ?_
      obtain rfl := si H
      refine T.sub (sub_to (st' := ⟨[(6, .v (.bool r9))], [], 8, []⟩) [] (by decide) rfl rfl (⟨⟨_, rfl, .one .v⟩, trivial⟩) (trivial)) ?_
      refine T.ret ?_
      exact RetOk.same [.v (.bool r9)] ⟨rfl, trivial⟩ rfl rfl rfl
    · replace H := cf H c8
      refine T.skip ?_
      refine T.seq ?_
      refine T.region ?_
      refine RunT.ot0 (x := .agg [.v (.int .i64 a0.Kind), .v (.string a0.Text), .v (.int .i64 a0.Order.Id), .v (.int .i64 a0.Order.State), .v (.int .i64 a0.Order.Party.Size), .v (.int .i64 a0.Order.Party.Wheels), .v (.int .i64 a0.Order.Until), .v (.int .i64 a0.Order.First), .v (.int .i64 a0.Time)]) rfl rfl rfl rfl (.loadP ty51 rfl rfl rfl) ?_
      obtain ⟨r11, h12, H⟩ := bs H
      refine RunT.ot0 (x := .tup [.lst (List.map eU8 r11.1), .v (.int .i64 r11.2)]) rfl rfl rfl rfl (.callp (PC.frozen (record_Put_pc false k a0 r11 h12)) rfl ⟨(.agg' ⟨.v, .v, .v, .v, .v, .v, .v, .v, .v, trivial⟩), trivial⟩ rfl rfl rfl) ?_
      refine RunT.ot0 (x := .tup [.lst (List.map eU8 r11.1), .v (.int .i64 r11.2)]) rfl rfl rfl rfl (.moveX rfl) ?_
      refine RunT.ot0 (x := .lst (List.map eU8 r11.1)) rfl rfl rfl rfl (.extract rfl rfl) ?_
      refine RunT.ot0 (x := .v (.int .i64 r11.2)) rfl rfl rfl rfl (.extract rfl rfl) ?_
      refine RunT.ot0 (x := .lst (List.map eU8 r11.1)) rfl rfl rfl rfl (.assignX rfl) ?_
      refine RunT.ot0 (x := .v (.int .i64 r11.2)) rfl rfl rfl rfl (.assignX rfl) ?_
      refine RunT.nil ?_
      refine T.seq ?_
      refine T.region ?_
      refine RunT.ot0 (x := .agg [.v (.int .i64 a0.Kind), .v (.string a0.Text), .v (.int .i64 a0.Order.Id), .v (.int .i64 a0.Order.State), .v (.int .i64 a0.Order.Party.Size), .v (.int .i64 a0.Order.Party.Wheels), .v (.int .i64 a0.Order.Until), .v (.int .i64 a0.Order.First), .v (.int .i64 a0.Time)]) rfl rfl rfl rfl (.loadP ty51 rfl rfl rfl) ?_
      obtain ⟨r13, h14, H⟩ := bs H
      refine RunT.ot0 (x := .tup [.v (.string r13.1), .v (.int .i64 r13.2)]) rfl rfl rfl rfl (.callp (ref19_PutRecord_pc false k a0 r13 h14) rfl ⟨(.agg' ⟨.v, .v, .v, .v, .v, .v, .v, .v, .v, trivial⟩), trivial⟩ rfl rfl rfl) ?_
      refine RunT.ot0 (x := .tup [.v (.string r13.1), .v (.int .i64 r13.2)]) rfl rfl rfl rfl (.moveX rfl) ?_
      refine RunT.ot0 (x := .v (.string r13.1)) rfl rfl rfl rfl (.extract rfl rfl) ?_
      refine RunT.ot0 (x := .v (.int .i64 r13.2)) rfl rfl rfl rfl (.extract rfl rfl) ?_
      refine RunT.ot0 (x := .v (.string r13.1)) rfl rfl rfl rfl (.assignX rfl) ?_
      refine RunT.ot0 (x := .v (.int .i64 r13.2)) rfl rfl rfl rfl (.assignX rfl) ?_
      refine RunT.nil ?_
      refine T.seq ?_
      refine T.sub (sub_pick [2, 3, 4, 7, 8, 9, 10] [0, 1] (st' := ⟨[(2, .lst (List.map eU8 a2)), (3, .ptr 0 0), (4, .ptr 1 0), (7, .lst (List.map eU8 r11.1)), (8, .v (.int .i64 r11.2)), (9, .v (.string r13.1)), (10, .v (.int .i64 r13.2))], [(0, some (.box [.v (.int .i64 a0.Kind), .v (.string a0.Text), .v (.int .i64 a0.Order.Id), .v (.int .i64 a0.Order.State), .v (.int .i64 a0.Order.Party.Size), .v (.int .i64 a0.Order.Party.Wheels), .v (.int .i64 a0.Order.Until), .v (.int .i64 a0.Order.First), .v (.int .i64 a0.Time)])), (1, some (.box [.v (.int .i64 a1.Kind), .v (.string a1.Text), .v (.int .i64 a1.Order.Id), .v (.int .i64 a1.Order.State), .v (.int .i64 a1.Order.Party.Size), .v (.int .i64 a1.Order.Party.Wheels), .v (.int .i64 a1.Order.Until), .v (.int .i64 a1.Order.First), .v (.int .i64 a1.Time)]))], 8, []⟩) rfl rfl rfl rfl rfl) ?_
      refine T.region ?_
      refine RunT.ot0 (x := .lst (List.map eU8 a2)) rfl rfl rfl rfl (.moveX rfl) ?_
      obtain ⟨r15, h16, H⟩ := bs H
      refine RunT.ot0 (x := .tup [.agg [.v (.int .i64 r15.1.Kind), .v (.string r15.1.Text), .v (.int .i64 r15.1.Order.Id), .v (.int .i64 r15.1.Order.State), .v (.int .i64 r15.1.Order.Party.Size), .v (.int .i64 r15.1.Order.Party.Wheels), .v (.int .i64 r15.1.Order.Until), .v (.int .i64 r15.1.Order.First), .v (.int .i64 r15.1.Time)], .v (.int .i64 r15.2)]) rfl rfl rfl rfl (.callp (record_Get_pc false k a2 r15 h16) rfl ⟨(.one .lst), trivial⟩ rfl rfl rfl) ?_
      refine RunT.ot0 (x := .tup [.agg [.v (.int .i64 r15.1.Kind), .v (.string r15.1.Text), .v (.int .i64 r15.1.Order.Id), .v (.int .i64 r15.1.Order.State), .v (.int .i64 r15.1.Order.Party.Size), .v (.int .i64 r15.1.Order.Party.Wheels), .v (.int .i64 r15.1.Order.Until), .v (.int .i64 r15.1.Order.First), .v (.int .i64 r15.1.Time)], .v (.int .i64 r15.2)]) rfl rfl rfl rfl (.moveX rfl) ?_
      refine RunT.ot0 (x := .agg [.v (.int .i64 r15.1.Kind), .v (.string r15.1.Text), .v (.int .i64 r15.1.Order.Id), .v (.int .i64 r15.1.Order.State), .v (.int .i64 r15.1.Order.Party.Size), .v (.int .i64 r15.1.Order.Party.Wheels), .v (.int .i64 r15.1.Order.Until), .v (.int .i64 r15.1.Order.First), .v (.int .i64 r15.1.Time)]) rfl rfl rfl rfl (.extract rfl rfl) ?_
      refine RunT.ot0 (x := .v (.int .i64 r15.2)) rfl rfl rfl rfl (.extract rfl rfl) ?_
      refine RunT.ot1 (x := .ptr 8 0) (p0 := (8, some (.box [.v (.int .i64 0), .v (.string (⟨#[]⟩ : ByteArray)), .v (.int .i64 0), .v (.int .i64 0), .v (.int .i64 0), .v (.int .i64 0), .v (.int .i64 0), .v (.int .i64 0), .v (.int .i64 0)]))) (n' := 16) rfl rfl rfl rfl (.allocX in51.zero rfl rfl) rfl ?_
      refine RunT.on1 (x := .junk) (p0 := (8, some (.box [.v (.int .i64 r15.1.Kind), .v (.string r15.1.Text), .v (.int .i64 r15.1.Order.Id), .v (.int .i64 r15.1.Order.State), .v (.int .i64 r15.1.Order.Party.Size), .v (.int .i64 r15.1.Order.Party.Wheels), .v (.int .i64 r15.1.Order.Until), .v (.int .i64 r15.1.Order.First), .v (.int .i64 r15.1.Time)]))) (n' := 24) rfl rfl rfl (.storePX ty51 rfl rfl rfl rfl rfl rfl rfl) rfl ?_
      refine RunT.ot0 (x := .v (.int .i64 r15.2)) rfl rfl rfl rfl (.assignX rfl) ?_
      refine RunT.nil ?_
      refine T.seq ?_
      refine T.region ?_
      refine RunT.ot0 (x := .lst (List.map eU8 a2)) rfl rfl rfl rfl (.moveX rfl) ?_
      refine RunT.ot0 (x := .v (.string (strOf a2))) rfl rfl rfl rfl (.toStrm (d := false) (m := a2) (f := eU8) Try.underlying35 Try.underlying5 Try.underlying9 rfl (.lstm Try.underlying35 enc_U8) (fun _ => rfl)) ?_
      obtain ⟨r17, h18, H⟩ := bs H
      refine RunT.ot0 (x := .tup [.agg [.v (.int .i64 r17.1.Kind), .v (.string r17.1.Text), .v (.int .i64 r17.1.Order.Id), .v (.int .i64 r17.1.Order.State), .v (.int .i64 r17.1.Order.Party.Size), .v (.int .i64 r17.1.Order.Party.Wheels), .v (.int .i64 r17.1.Order.Until), .v (.int .i64 r17.1.Order.First), .v (.int .i64 r17.1.Time)], .v (.int .i64 r17.2)]) rfl rfl rfl rfl (.callp (ref19_GetRecord_pc false k (strOf a2) r17 h18) rfl ⟨(.one .v), trivial⟩ rfl rfl rfl) ?_
      refine RunT.ot0 (x := .tup [.agg [.v (.int .i64 r17.1.Kind), .v (.string r17.1.Text), .v (.int .i64 r17.1.Order.Id), .v (.int .i64 r17.1.Order.State), .v (.int .i64 r17.1.Order.Party.Size), .v (.int .i64 r17.1.Order.Party.Wheels), .v (.int .i64 r17.1.Order.Until), .v (.int .i64 r17.1.Order.First), .v (.int .i64 r17.1.Time)], .v (.int .i64 r17.2)]) rfl rfl rfl rfl (.moveX rfl) ?_
      refine RunT.ot0 (x := .agg [.v (.int .i64 r17.1.Kind), .v (.string r17.1.Text), .v (.int .i64 r17.1.Order.Id), .v (.int .i64 r17.1.Order.State), .v (.int .i64 r17.1.Order.Party.Size), .v (.int .i64 r17.1.Order.Party.Wheels), .v (.int .i64 r17.1.Order.Until), .v (.int .i64 r17.1.Order.First), .v (.int .i64 r17.1.Time)]) rfl rfl rfl rfl (.extract rfl rfl) ?_
      refine RunT.ot0 (x := .v (.int .i64 r17.2)) rfl rfl rfl rfl (.extract rfl rfl) ?_
      refine RunT.ot1 (x := .ptr 24 0) (p0 := (24, some (.box [.v (.int .i64 0), .v (.string (⟨#[]⟩ : ByteArray)), .v (.int .i64 0), .v (.int .i64 0), .v (.int .i64 0), .v (.int .i64 0), .v (.int .i64 0), .v (.int .i64 0), .v (.int .i64 0)]))) (n' := 32) rfl rfl rfl rfl (.allocX in51.zero rfl rfl) rfl ?_
      refine RunT.on1 (x := .junk) (p0 := (24, some (.box [.v (.int .i64 r17.1.Kind), .v (.string r17.1.Text), .v (.int .i64 r17.1.Order.Id), .v (.int .i64 r17.1.Order.State), .v (.int .i64 r17.1.Order.Party.Size), .v (.int .i64 r17.1.Order.Party.Wheels), .v (.int .i64 r17.1.Order.Until), .v (.int .i64 r17.1.Order.First), .v (.int .i64 r17.1.Time)]))) (n' := 40) rfl rfl rfl (.storePX ty51 rfl rfl rfl rfl rfl rfl rfl) rfl ?_
      refine RunT.ot0 (x := .v (.int .i64 r17.2)) rfl rfl rfl rfl (.assignX rfl) ?_
      refine RunT.nil ?_
      refine T.seq ?_
      refine T.sub (sub_pick [3, 4, 7, 8, 9, 10, 11, 12, 13, 14] [0, 1, 8, 24] (st' := ⟨[(3, .ptr 0 0), (4, .ptr 1 0), (7, .lst (List.map eU8 r11.1)), (8, .v (.int .i64 r11.2)), (9, .v (.string r13.1)), (10, .v (.int .i64 r13.2)), (11, .ptr 8 0), (12, .v (.int .i64 r15.2)), (13, .ptr 24 0), (14, .v (.int .i64 r17.2))], [(0, some (.box [.v (.int .i64 a0.Kind), .v (.string a0.Text), .v (.int .i64 a0.Order.Id), .v (.int .i64 a0.Order.State), .v (.int .i64 a0.Order.Party.Size), .v (.int .i64 a0.Order.Party.Wheels), .v (.int .i64 a0.Order.Until), .v (.int .i64 a0.Order.First), .v (.int .i64 a0.Time)])), (1, some (.box [.v (.int .i64 a1.Kind), .v (.string a1.Text), .v (.int .i64 a1.Order.Id), .v (.int .i64 a1.Order.State), .v (.int .i64 a1.Order.Party.Size), .v (.int .i64 a1.Order.Party.Wheels), .v (.int .i64 a1.Order.Until), .v (.int .i64 a1.Order.First), .v (.int .i64 a1.Time)])), (8, some (.box [.v (.int .i64 r15.1.Kind), .v (.string r15.1.Text), .v (.int .i64 r15.1.Order.Id), .v (.int .i64 r15.1.Order.State), .v (.int .i64 r15.1.Order.Party.Size), .v (.int .i64 r15.1.Order.Party.Wheels), .v (.int .i64 r15.1.Order.Until), .v (.int .i64 r15.1.Order.First), .v (.int .i64 r15.1.Time)])), (24, some (.box [.v (.int .i64 r17.1.Kind), .v (.string r17.1.Text), .v (.int .i64 r17.1.Order.Id), .v (.int .i64 r17.1.Order.State), .v (.int .i64 r17.1.Order.Party.Size), .v (.int .i64 r17.1.Order.Party.Wheels), .v (.int .i64 r17.1.Order.Until), .v (.int .i64 r17.1.Order.First), .v (.int .i64 r17.1.Time)]))], 40, []⟩) rfl rfl rfl rfl rfl) ?_
      refine T.draw (wr := []) mixed rfl rfl ?_ rfl
      obtain ⟨r33, h34, H⟩ := bs H
      refine RunD.ot0 (x := .v (.bool r33)) rfl rfl rfl rfl (.callp (law22_told_pc false k  r33 h34) rfl trivial rfl rfl rfl) rfl ?_
      refine RunD.ot0 (x := .v (.bool r33)) rfl rfl rfl rfl (.moveX rfl) rfl ?_
      refine RunD.cases (t := 53) (c := r33) rfl (fun g35 => ?_) (fun g35 => ?_)
      · replace H := ct H g35
        refine RunD.gt0 (x := .agg [.v (.int .i64 a0.Kind), .v (.string a0.Text), .v (.int .i64 a0.Order.Id), .v (.int .i64 a0.Order.State), .v (.int .i64 a0.Order.Party.Size), .v (.int .i64 a0.Order.Party.Wheels), .v (.int .i64 a0.Order.Until), .v (.int .i64 a0.Order.First), .v (.int .i64 a0.Time)]) rfl rfl rfl (bo g35) rfl rfl (.loadP ty51 rfl rfl rfl) rfl ?_
        obtain ⟨r36, h37, H⟩ := bs H
        refine RunD.gt0 (x := .v (.bool r36)) rfl rfl rfl (bo g35) rfl rfl (.callp (record_May_pc false k a0 r36 h37) rfl ⟨(.agg' ⟨.v, .v, .v, .v, .v, .v, .v, .v, .v, trivial⟩), trivial⟩ rfl rfl rfl) rfl ?_
        refine RunD.gt0 (x := .agg [.v (.int .i64 a0.Kind), .v (.string a0.Text), .v (.int .i64 a0.Order.Id), .v (.int .i64 a0.Order.State), .v (.int .i64 a0.Order.Party.Size), .v (.int .i64 a0.Order.Party.Wheels), .v (.int .i64 a0.Order.Until), .v (.int .i64 a0.Order.First), .v (.int .i64 a0.Time)]) rfl rfl rfl (bo g35) rfl rfl (.loadP ty51 rfl rfl rfl) rfl ?_
        obtain ⟨r38, h39, H⟩ := bs H
        refine RunD.gt0 (x := .v (.bool r38)) rfl rfl rfl (bo g35) rfl rfl (.callp (ref19_MayRecord_pc false k a0 r38 h39) rfl ⟨(.agg' ⟨.v, .v, .v, .v, .v, .v, .v, .v, .v, trivial⟩), trivial⟩ rfl rfl rfl) rfl ?_
        refine RunD.gt0 (x := .v (.bool (r36 == r38))) rfl rfl rfl (bo g35) rfl rfl (.bin rfl rfl (fun w => b_eqB w Try.underlying4) rfl) rfl ?_
        refine RunD.ot0 (x := .v (.bool (r36 == r38))) rfl rfl rfl rfl (.pickT (bo g35) rfl) rfl ?_
        refine RunD.ot0 (x := .v (.bool (r36 == r38))) rfl rfl rfl rfl (.moveX rfl) rfl ?_
        refine RunD.cases (t := 60) (c := r36 == r38) rfl (fun g40 => ?_) (fun g40 => ?_)
        · replace H := ct H g40
          refine RunD.gt0 (x := .v (.int .i64 r11.2)) rfl rfl rfl (bo g40) rfl rfl (.moveX rfl) rfl ?_
          refine RunD.gt0 (x := .v (.int .i64 r13.2)) rfl rfl rfl (bo g40) rfl rfl (.moveX rfl) rfl ?_
          refine RunD.gt0 (x := .v (.bool (decide (r11.2 = r13.2)))) rfl rfl rfl (bo g40) rfl rfl (.bin rfl rfl (fun w => b_eql w) rfl) rfl ?_
          refine RunD.ot0 (x := .v (.bool (decide (r11.2 = r13.2)))) rfl rfl rfl rfl (.pickT (bo g40) rfl) rfl ?_
          refine RunD.ot0 (x := .v (.bool (decide (r11.2 = r13.2)))) rfl rfl rfl rfl (.moveX rfl) rfl ?_
          refine RunD.cases (t := 65) (c := decide (r11.2 = r13.2)) rfl (fun g41 => ?_) (fun g41 => ?_)
          · replace H := ct H g41
            refine RunD.gt0 (x := .lst (List.map eU8 r11.1)) rfl rfl rfl (bo g41) rfl rfl (.moveX rfl) rfl ?_
            refine RunD.gt0 (x := .v (.string (strOf r11.1))) rfl rfl rfl (bo g41) rfl rfl (.toStrm (d := false) (m := r11.1) (f := eU8) Try.underlying35 Try.underlying5 Try.underlying9 rfl (.lstm Try.underlying35 enc_U8) (fun _ => rfl)) rfl ?_
            refine RunD.gt0 (x := .v (.string r13.1)) rfl rfl rfl (bo g41) rfl rfl (.moveX rfl) rfl ?_
            refine RunD.gt0 (x := .v (.bool ((strOf r11.1) == r13.1))) rfl rfl rfl (bo g41) rfl rfl (.bin rfl rfl (fun w => eqStr w) rfl) rfl ?_
            refine RunD.ot0 (x := .v (.bool ((strOf r11.1) == r13.1))) rfl rfl rfl rfl (.pickT (bo g41) rfl) rfl ?_
            refine RunD.ot0 (x := .v (.bool ((strOf r11.1) == r13.1))) rfl rfl rfl rfl (.moveX rfl) rfl ?_
            refine RunD.cases (t := 71) (c := (strOf r11.1) == r13.1) rfl (fun g42 => ?_) (fun g42 => ?_)
            · replace H := ct H g42
              refine RunD.gt0 (x := .agg [.v (.int .i64 r15.1.Kind), .v (.string r15.1.Text), .v (.int .i64 r15.1.Order.Id), .v (.int .i64 r15.1.Order.State), .v (.int .i64 r15.1.Order.Party.Size), .v (.int .i64 r15.1.Order.Party.Wheels), .v (.int .i64 r15.1.Order.Until), .v (.int .i64 r15.1.Order.First), .v (.int .i64 r15.1.Time)]) rfl rfl rfl (bo g42) rfl rfl (.loadP ty51 rfl rfl rfl) rfl ?_
              refine RunD.gt0 (x := .agg [.v (.int .i64 r17.1.Kind), .v (.string r17.1.Text), .v (.int .i64 r17.1.Order.Id), .v (.int .i64 r17.1.Order.State), .v (.int .i64 r17.1.Order.Party.Size), .v (.int .i64 r17.1.Order.Party.Wheels), .v (.int .i64 r17.1.Order.Until), .v (.int .i64 r17.1.Order.First), .v (.int .i64 r17.1.Time)]) rfl rfl rfl (bo g42) rfl rfl (.loadP ty51 rfl rfl rfl) rfl ?_
              refine RunD.gt0 (x := .v (.bool (decide (r15.1 = r17.1)))) rfl rfl rfl (bo g42) rfl rfl (.binA (us := us_Record (r15.1)) (vs := us_Record (r17.1)) rfl rfl (fun w => eq_Record (r15.1) (r17.1) w) rfl) rfl ?_
              refine RunD.ot0 (x := .v (.bool (decide (r15.1 = r17.1)))) rfl rfl rfl rfl (.pickT (bo g42) rfl) rfl ?_
              refine RunD.ot0 (x := .v (.bool (decide (r15.1 = r17.1)))) rfl rfl rfl rfl (.moveX rfl) rfl ?_
              refine RunD.cases (t := 76) (c := decide (r15.1 = r17.1)) rfl (fun g43 => ?_) (fun g43 => ?_)
              · replace H := ct H g43
                refine RunD.gt0 (x := .v (.int .i64 r15.2)) rfl rfl rfl (bo g43) rfl rfl (.moveX rfl) rfl ?_
                refine RunD.gt0 (x := .v (.int .i64 r17.2)) rfl rfl rfl (bo g43) rfl rfl (.moveX rfl) rfl ?_
                refine RunD.gt0 (x := .v (.bool (decide (r15.2 = r17.2)))) rfl rfl rfl (bo g43) rfl rfl (.bin rfl rfl (fun w => b_eql w) rfl) rfl ?_
                refine RunD.ot0 (x := .v (.bool (decide (r15.2 = r17.2)))) rfl rfl rfl rfl (.pickT (bo g43) rfl) rfl ?_
                refine RunD.ot0 (x := .v (.bool (decide (r15.2 = r17.2)))) rfl rfl rfl rfl (.moveX rfl) rfl ?_
                refine RunD.cases (t := 81) (c := decide (r15.2 = r17.2)) rfl (fun g44 => ?_) (fun g44 => ?_)
                · replace H := ct H g44
                  refine RunD.gt0 (x := .agg [.v (.int .i64 a0.Kind), .v (.string a0.Text), .v (.int .i64 a0.Order.Id), .v (.int .i64 a0.Order.State), .v (.int .i64 a0.Order.Party.Size), .v (.int .i64 a0.Order.Party.Wheels), .v (.int .i64 a0.Order.Until), .v (.int .i64 a0.Order.First), .v (.int .i64 a0.Time)]) rfl rfl rfl (bo g44) rfl rfl (.loadP ty51 rfl rfl rfl) rfl ?_
                  refine RunD.gt0 (x := .agg [.v (.int .i64 a1.Kind), .v (.string a1.Text), .v (.int .i64 a1.Order.Id), .v (.int .i64 a1.Order.State), .v (.int .i64 a1.Order.Party.Size), .v (.int .i64 a1.Order.Party.Wheels), .v (.int .i64 a1.Order.Until), .v (.int .i64 a1.Order.First), .v (.int .i64 a1.Time)]) rfl rfl rfl (bo g44) rfl rfl (.loadP ty51 rfl rfl rfl) rfl ?_
                  obtain ⟨r45, h46, H⟩ := bs H
                  refine RunD.gt0 (x := .v (.bool r45)) rfl rfl rfl (bo g44) rfl rfl (.callp (record_Same_pc false k a0 a1 r45 h46) rfl ⟨(.agg' ⟨.v, .v, .v, .v, .v, .v, .v, .v, .v, trivial⟩), (.agg' ⟨.v, .v, .v, .v, .v, .v, .v, .v, .v, trivial⟩), trivial⟩ rfl rfl rfl) rfl ?_
                  refine RunD.gt0 (x := .agg [.v (.int .i64 a0.Kind), .v (.string a0.Text), .v (.int .i64 a0.Order.Id), .v (.int .i64 a0.Order.State), .v (.int .i64 a0.Order.Party.Size), .v (.int .i64 a0.Order.Party.Wheels), .v (.int .i64 a0.Order.Until), .v (.int .i64 a0.Order.First), .v (.int .i64 a0.Time)]) rfl rfl rfl (bo g44) rfl rfl (.loadP ty51 rfl rfl rfl) rfl ?_
                  refine RunD.gt0 (x := .agg [.v (.int .i64 a1.Kind), .v (.string a1.Text), .v (.int .i64 a1.Order.Id), .v (.int .i64 a1.Order.State), .v (.int .i64 a1.Order.Party.Size), .v (.int .i64 a1.Order.Party.Wheels), .v (.int .i64 a1.Order.Until), .v (.int .i64 a1.Order.First), .v (.int .i64 a1.Time)]) rfl rfl rfl (bo g44) rfl rfl (.loadP ty51 rfl rfl rfl) rfl ?_
                  refine RunD.gt0 (x := .v (.bool (decide (a0 = a1)))) rfl rfl rfl (bo g44) rfl rfl (.binA (us := us_Record (a0)) (vs := us_Record (a1)) rfl rfl (fun w => eq_Record (a0) (a1) w) rfl) rfl ?_
                  refine RunD.gt0 (x := .v (.bool (r45 == (decide (a0 = a1))))) rfl rfl rfl (bo g44) rfl rfl (.bin rfl rfl (fun w => b_eqB w Try.underlying4) rfl) rfl ?_
                  refine RunD.ot0 (x := .v (.bool (r45 == (decide (a0 = a1))))) rfl rfl rfl rfl (.pickT (bo g44) rfl) rfl ?_
                  refine RunD.ot0 (x := .v (.bool (r45 == (decide (a0 = a1))))) rfl rfl rfl rfl (.assignX rfl) rfl ?_
                  refine RunD.nil (by kernel_rfl) ⟨rfl, rfl, ?_⟩
                  obtain rfl := si H
                  refine T.sub (sub_to (st' := ⟨[(6, .v (.bool (r45 == (decide (a0 = a1)))))], [], 8, []⟩) [] (by decide) rfl rfl (⟨⟨_, rfl, .one .v⟩, trivial⟩) (trivial)) ?_
                  refine T.ret ?_
                  exact RetOk.same [.v (.bool (r45 == (decide (a0 = a1))))] ⟨rfl, trivial⟩ rfl rfl rfl
                · replace H := cf H g44
                  refine RunD.xn rfl rfl rfl (bo g44) rfl rfl ?_
                  refine RunD.xn rfl rfl rfl (bo g44) rfl rfl ?_
                  refine RunD.xn rfl rfl rfl (bo g44) rfl rfl ?_
                  refine RunD.xn rfl rfl rfl (bo g44) rfl rfl ?_
                  refine RunD.xn rfl rfl rfl (bo g44) rfl rfl ?_
                  refine RunD.xn rfl rfl rfl (bo g44) rfl rfl ?_
                  refine RunD.xn rfl rfl rfl (bo g44) rfl rfl ?_
                  refine RunD.ot0 (x := .v (.bool false)) rfl rfl rfl rfl (.pickF (bo g44) rfl) rfl ?_
                  refine RunD.ot0 (x := .v (.bool false)) rfl rfl rfl rfl (.assignX rfl) rfl ?_
                  refine RunD.nil (by kernel_rfl) ⟨rfl, rfl, ?_⟩
                  obtain rfl := si H
                  refine T.sub (sub_to (st' := ⟨[(6, .v (.bool false))], [], 8, []⟩) [] (by decide) rfl rfl (⟨⟨_, rfl, .one .v⟩, trivial⟩) (trivial)) ?_
                  refine T.ret ?_
                  exact RetOk.same [.v (.bool false)] ⟨rfl, trivial⟩ rfl rfl rfl
              · replace H := cf H g43
                refine RunD.xn rfl rfl rfl (bo g43) rfl rfl ?_
                refine RunD.xn rfl rfl rfl (bo g43) rfl rfl ?_
                refine RunD.xn rfl rfl rfl (bo g43) rfl rfl ?_
                refine RunD.ot0 (x := .v (.bool false)) rfl rfl rfl rfl (.pickF (bo g43) rfl) rfl ?_
                refine RunD.ot0 (x := .v (.bool false)) rfl rfl rfl rfl (.moveX rfl) rfl ?_
                refine RunD.xn rfl rfl rfl rfl rfl rfl ?_
                refine RunD.xn rfl rfl rfl rfl rfl rfl ?_
                refine RunD.xn rfl rfl rfl rfl rfl rfl ?_
                refine RunD.xn rfl rfl rfl rfl rfl rfl ?_
                refine RunD.xn rfl rfl rfl rfl rfl rfl ?_
                refine RunD.xn rfl rfl rfl rfl rfl rfl ?_
                refine RunD.xn rfl rfl rfl rfl rfl rfl ?_
                refine RunD.ot0 (x := .v (.bool false)) rfl rfl rfl rfl (.pickF rfl rfl) rfl ?_
                refine RunD.ot0 (x := .v (.bool false)) rfl rfl rfl rfl (.assignX rfl) rfl ?_
                refine RunD.nil (by kernel_rfl) ⟨rfl, rfl, ?_⟩
                obtain rfl := si H
                refine T.sub (sub_to (st' := ⟨[(6, .v (.bool false))], [], 8, []⟩) [] (by decide) rfl rfl (⟨⟨_, rfl, .one .v⟩, trivial⟩) (trivial)) ?_
                refine T.ret ?_
                exact RetOk.same [.v (.bool false)] ⟨rfl, trivial⟩ rfl rfl rfl
            · replace H := cf H g42
              refine RunD.xn rfl rfl rfl (bo g42) rfl rfl ?_
              refine RunD.xn rfl rfl rfl (bo g42) rfl rfl ?_
              refine RunD.xn rfl rfl rfl (bo g42) rfl rfl ?_
              refine RunD.ot0 (x := .v (.bool false)) rfl rfl rfl rfl (.pickF (bo g42) rfl) rfl ?_
              refine RunD.ot0 (x := .v (.bool false)) rfl rfl rfl rfl (.moveX rfl) rfl ?_
              refine RunD.xn rfl rfl rfl rfl rfl rfl ?_
              refine RunD.xn rfl rfl rfl rfl rfl rfl ?_
              refine RunD.xn rfl rfl rfl rfl rfl rfl ?_
              refine RunD.ot0 (x := .v (.bool false)) rfl rfl rfl rfl (.pickF rfl rfl) rfl ?_
              refine RunD.ot0 (x := .v (.bool false)) rfl rfl rfl rfl (.moveX rfl) rfl ?_
              refine RunD.xn rfl rfl rfl rfl rfl rfl ?_
              refine RunD.xn rfl rfl rfl rfl rfl rfl ?_
              refine RunD.xn rfl rfl rfl rfl rfl rfl ?_
              refine RunD.xn rfl rfl rfl rfl rfl rfl ?_
              refine RunD.xn rfl rfl rfl rfl rfl rfl ?_
              refine RunD.xn rfl rfl rfl rfl rfl rfl ?_
              refine RunD.xn rfl rfl rfl rfl rfl rfl ?_
              refine RunD.ot0 (x := .v (.bool false)) rfl rfl rfl rfl (.pickF rfl rfl) rfl ?_
              refine RunD.ot0 (x := .v (.bool false)) rfl rfl rfl rfl (.assignX rfl) rfl ?_
              refine RunD.nil (by kernel_rfl) ⟨rfl, rfl, ?_⟩
              obtain rfl := si H
              refine T.sub (sub_to (st' := ⟨[(6, .v (.bool false))], [], 8, []⟩) [] (by decide) rfl rfl (⟨⟨_, rfl, .one .v⟩, trivial⟩) (trivial)) ?_
              refine T.ret ?_
              exact RetOk.same [.v (.bool false)] ⟨rfl, trivial⟩ rfl rfl rfl
          · replace H := cf H g41
            refine RunD.xn rfl rfl rfl (bo g41) rfl rfl ?_
            refine RunD.xn rfl rfl rfl (bo g41) rfl rfl ?_
            refine RunD.xn rfl rfl rfl (bo g41) rfl rfl ?_
            refine RunD.xn rfl rfl rfl (bo g41) rfl rfl ?_
            refine RunD.ot0 (x := .v (.bool false)) rfl rfl rfl rfl (.pickF (bo g41) rfl) rfl ?_
            refine RunD.ot0 (x := .v (.bool false)) rfl rfl rfl rfl (.moveX rfl) rfl ?_
            refine RunD.xn rfl rfl rfl rfl rfl rfl ?_
            refine RunD.xn rfl rfl rfl rfl rfl rfl ?_
            refine RunD.xn rfl rfl rfl rfl rfl rfl ?_
            refine RunD.ot0 (x := .v (.bool false)) rfl rfl rfl rfl (.pickF rfl rfl) rfl ?_
            refine RunD.ot0 (x := .v (.bool false)) rfl rfl rfl rfl (.moveX rfl) rfl ?_
            refine RunD.xn rfl rfl rfl rfl rfl rfl ?_
            refine RunD.xn rfl rfl rfl rfl rfl rfl ?_
            refine RunD.xn rfl rfl rfl rfl rfl rfl ?_
            refine RunD.ot0 (x := .v (.bool false)) rfl rfl rfl rfl (.pickF rfl rfl) rfl ?_
            refine RunD.ot0 (x := .v (.bool false)) rfl rfl rfl rfl (.moveX rfl) rfl ?_
            refine RunD.xn rfl rfl rfl rfl rfl rfl ?_
            refine RunD.xn rfl rfl rfl rfl rfl rfl ?_
            refine RunD.xn rfl rfl rfl rfl rfl rfl ?_
            refine RunD.xn rfl rfl rfl rfl rfl rfl ?_
            refine RunD.xn rfl rfl rfl rfl rfl rfl ?_
            refine RunD.xn rfl rfl rfl rfl rfl rfl ?_
            refine RunD.xn rfl rfl rfl rfl rfl rfl ?_
            refine RunD.ot0 (x := .v (.bool false)) rfl rfl rfl rfl (.pickF rfl rfl) rfl ?_
            refine RunD.ot0 (x := .v (.bool false)) rfl rfl rfl rfl (.assignX rfl) rfl ?_
            refine RunD.nil (by kernel_rfl) ⟨rfl, rfl, ?_⟩
            obtain rfl := si H
            refine T.sub (sub_to (st' := ⟨[(6, .v (.bool false))], [], 8, []⟩) [] (by decide) rfl rfl (⟨⟨_, rfl, .one .v⟩, trivial⟩) (trivial)) ?_
            refine T.ret ?_
            exact RetOk.same [.v (.bool false)] ⟨rfl, trivial⟩ rfl rfl rfl
        · replace H := cf H g40
          refine RunD.xn rfl rfl rfl (bo g40) rfl rfl ?_
          refine RunD.xn rfl rfl rfl (bo g40) rfl rfl ?_
          refine RunD.xn rfl rfl rfl (bo g40) rfl rfl ?_
          refine RunD.ot0 (x := .v (.bool false)) rfl rfl rfl rfl (.pickF (bo g40) rfl) rfl ?_
          refine RunD.ot0 (x := .v (.bool false)) rfl rfl rfl rfl (.moveX rfl) rfl ?_
          refine RunD.xn rfl rfl rfl rfl rfl rfl ?_
          refine RunD.xn rfl rfl rfl rfl rfl rfl ?_
          refine RunD.xn rfl rfl rfl rfl rfl rfl ?_
          refine RunD.xn rfl rfl rfl rfl rfl rfl ?_
          refine RunD.ot0 (x := .v (.bool false)) rfl rfl rfl rfl (.pickF rfl rfl) rfl ?_
          refine RunD.ot0 (x := .v (.bool false)) rfl rfl rfl rfl (.moveX rfl) rfl ?_
          refine RunD.xn rfl rfl rfl rfl rfl rfl ?_
          refine RunD.xn rfl rfl rfl rfl rfl rfl ?_
          refine RunD.xn rfl rfl rfl rfl rfl rfl ?_
          refine RunD.ot0 (x := .v (.bool false)) rfl rfl rfl rfl (.pickF rfl rfl) rfl ?_
          refine RunD.ot0 (x := .v (.bool false)) rfl rfl rfl rfl (.moveX rfl) rfl ?_
          refine RunD.xn rfl rfl rfl rfl rfl rfl ?_
          refine RunD.xn rfl rfl rfl rfl rfl rfl ?_
          refine RunD.xn rfl rfl rfl rfl rfl rfl ?_
          refine RunD.ot0 (x := .v (.bool false)) rfl rfl rfl rfl (.pickF rfl rfl) rfl ?_
          refine RunD.ot0 (x := .v (.bool false)) rfl rfl rfl rfl (.moveX rfl) rfl ?_
          refine RunD.xn rfl rfl rfl rfl rfl rfl ?_
          refine RunD.xn rfl rfl rfl rfl rfl rfl ?_
          refine RunD.xn rfl rfl rfl rfl rfl rfl ?_
          refine RunD.xn rfl rfl rfl rfl rfl rfl ?_
          refine RunD.xn rfl rfl rfl rfl rfl rfl ?_
          refine RunD.xn rfl rfl rfl rfl rfl rfl ?_
          refine RunD.xn rfl rfl rfl rfl rfl rfl ?_
          refine RunD.ot0 (x := .v (.bool false)) rfl rfl rfl rfl (.pickF rfl rfl) rfl ?_
          refine RunD.ot0 (x := .v (.bool false)) rfl rfl rfl rfl (.assignX rfl) rfl ?_
          refine RunD.nil (by kernel_rfl) ⟨rfl, rfl, ?_⟩
          obtain rfl := si H
          refine T.sub (sub_to (st' := ⟨[(6, .v (.bool false))], [], 8, []⟩) [] (by decide) rfl rfl (⟨⟨_, rfl, .one .v⟩, trivial⟩) (trivial)) ?_
          refine T.ret ?_
          exact RetOk.same [.v (.bool false)] ⟨rfl, trivial⟩ rfl rfl rfl
      · replace H := cf H g35
        refine RunD.xn rfl rfl rfl (bo g35) rfl rfl ?_
        refine RunD.xn rfl rfl rfl (bo g35) rfl rfl ?_
        refine RunD.xn rfl rfl rfl (bo g35) rfl rfl ?_
        refine RunD.xn rfl rfl rfl (bo g35) rfl rfl ?_
        refine RunD.xn rfl rfl rfl (bo g35) rfl rfl ?_
        refine RunD.ot0 (x := .v (.bool false)) rfl rfl rfl rfl (.pickF (bo g35) rfl) rfl ?_
        refine RunD.ot0 (x := .v (.bool false)) rfl rfl rfl rfl (.moveX rfl) rfl ?_
        refine RunD.xn rfl rfl rfl rfl rfl rfl ?_
        refine RunD.xn rfl rfl rfl rfl rfl rfl ?_
        refine RunD.xn rfl rfl rfl rfl rfl rfl ?_
        refine RunD.ot0 (x := .v (.bool false)) rfl rfl rfl rfl (.pickF rfl rfl) rfl ?_
        refine RunD.ot0 (x := .v (.bool false)) rfl rfl rfl rfl (.moveX rfl) rfl ?_
        refine RunD.xn rfl rfl rfl rfl rfl rfl ?_
        refine RunD.xn rfl rfl rfl rfl rfl rfl ?_
        refine RunD.xn rfl rfl rfl rfl rfl rfl ?_
        refine RunD.xn rfl rfl rfl rfl rfl rfl ?_
        refine RunD.ot0 (x := .v (.bool false)) rfl rfl rfl rfl (.pickF rfl rfl) rfl ?_
        refine RunD.ot0 (x := .v (.bool false)) rfl rfl rfl rfl (.moveX rfl) rfl ?_
        refine RunD.xn rfl rfl rfl rfl rfl rfl ?_
        refine RunD.xn rfl rfl rfl rfl rfl rfl ?_
        refine RunD.xn rfl rfl rfl rfl rfl rfl ?_
        refine RunD.ot0 (x := .v (.bool false)) rfl rfl rfl rfl (.pickF rfl rfl) rfl ?_
        refine RunD.ot0 (x := .v (.bool false)) rfl rfl rfl rfl (.moveX rfl) rfl ?_
        refine RunD.xn rfl rfl rfl rfl rfl rfl ?_
        refine RunD.xn rfl rfl rfl rfl rfl rfl ?_
        refine RunD.xn rfl rfl rfl rfl rfl rfl ?_
        refine RunD.ot0 (x := .v (.bool false)) rfl rfl rfl rfl (.pickF rfl rfl) rfl ?_
        refine RunD.ot0 (x := .v (.bool false)) rfl rfl rfl rfl (.moveX rfl) rfl ?_
        refine RunD.xn rfl rfl rfl rfl rfl rfl ?_
        refine RunD.xn rfl rfl rfl rfl rfl rfl ?_
        refine RunD.xn rfl rfl rfl rfl rfl rfl ?_
        refine RunD.xn rfl rfl rfl rfl rfl rfl ?_
        refine RunD.xn rfl rfl rfl rfl rfl rfl ?_
        refine RunD.xn rfl rfl rfl rfl rfl rfl ?_
        refine RunD.xn rfl rfl rfl rfl rfl rfl ?_
        refine RunD.ot0 (x := .v (.bool false)) rfl rfl rfl rfl (.pickF rfl rfl) rfl ?_
        refine RunD.ot0 (x := .v (.bool false)) rfl rfl rfl rfl (.assignX rfl) rfl ?_
        refine RunD.nil (by kernel_rfl) ⟨rfl, rfl, ?_⟩
        obtain rfl := si H
        refine T.sub (sub_to (st' := ⟨[(6, .v (.bool false))], [], 8, []⟩) [] (by decide) rfl rfl (⟨⟨_, rfl, .one .v⟩, trivial⟩) (trivial)) ?_
        refine T.ret ?_
        exact RetOk.same [.v (.bool false)] ⟨rfl, trivial⟩ rfl rfl rfl
end Go.Proofs.Ytijfhnpmdhonhaa
