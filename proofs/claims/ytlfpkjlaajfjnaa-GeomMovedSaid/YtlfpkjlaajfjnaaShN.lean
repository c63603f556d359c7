/- Walks over states that are written out: one step each. -/
import Derived.Test.YtlfpkjlaajfjnaaShM
set_option linter.unusedVariables false
set_option linter.unusedSimpArgs false
namespace Go.Sh
open Go.RowKit
theorem dstB_some {n t:Nat} {o:Oper} (h:o.dst=some t) (hb:Nat.blt t n=true):dstB n o=true:=by unfold dstB;rw[h];exact hb
theorem dstB_none {n:Nat} {o:Oper} (h:o.dst=none):dstB n o=true:=by unfold dstB;rw[h]
section
variable {P:Program} {cx:Cx} {ops:Array Oper} {i:Nat} {l:List Nat} {env:Env} {heap:Hp} {nx n' t t' j:Nat} {K:St→Prop} {o:Oper} {x:SV} {b:Bool}
theorem T.st {Q:Exit→St→Prop} {c:Code} {st st':St} (h:st=st') (hn:T P cx c Q st'):T P cx c Q st:=h▸hn
theorem RunT.on1 {p0:Nat×Option Blk} (ho:ops[i]?=some o) (hg:o.guard=none) (hd:o.dst=none) (h:Op1 P (ev env) (fun b=>hlook b heap) nx o.op x [p0]) (hx:nx+8=n') (hn:RunT P cx ops l ⟨env,p0::heap,n',[]⟩ K):RunT P cx ops (i::l) ⟨env,heap,nx,[]⟩ K :=
 RunT.op0 (st:=⟨env,heap,nx,[]⟩) ho hg (dstB_none hd) rfl h (by rw[hd];subst hx;exact hn)
theorem RunT.ot0  (ho:ops[i]?=some o) (hg:o.guard=none) (hd:o.dst=some t) (hb:Nat.blt t cx.n=true) (h:Op1 P (ev env) (fun b=>hlook b heap) nx o.op x []) (hn:RunT P cx ops l ⟨(t,x)::env,heap,nx,[]⟩ K):RunT P cx ops (i::l) ⟨env,heap,nx,[]⟩ K :=
 RunT.op0 (st:=⟨env,heap,nx,[]⟩) ho hg (dstB_some hd hb) rfl h (by rw[hd];exact hn)
theorem RunT.ot1 {p0:Nat×Option Blk} (ho:ops[i]?=some o) (hg:o.guard=none) (hd:o.dst=some t) (hb:Nat.blt t cx.n=true) (h:Op1 P (ev env) (fun b=>hlook b heap) nx o.op x [p0]) (hx:nx+8=n') (hn:RunT P cx ops l ⟨(t,x)::env,p0::heap,n',[]⟩ K):RunT P cx ops (i::l) ⟨env,heap,nx,[]⟩ K :=
 RunT.op0 (st:=⟨env,heap,nx,[]⟩) ho hg (dstB_some hd hb) rfl h (by rw[hd];subst hx;exact hn)
theorem RunT.ot2 {p0:Nat×Option Blk} {p1:Nat×Option Blk} (ho:ops[i]?=some o) (hg:o.guard=none) (hd:o.dst=some t) (hb:Nat.blt t cx.n=true) (h:Op1 P (ev env) (fun b=>hlook b heap) nx o.op x [p0,p1]) (hx:nx+8=n') (hn:RunT P cx ops l ⟨(t,x)::env,p0::p1::heap,n',[]⟩ K):RunT P cx ops (i::l) ⟨env,heap,nx,[]⟩ K :=
 RunT.op0 (st:=⟨env,heap,nx,[]⟩) ho hg (dstB_some hd hb) rfl h (by rw[hd];subst hx;exact hn)
theorem RunT.gt0  (ho:ops[i]?=some o) (hg:o.guard=some (j,b)) (ht:(ops[j]?).bind (·.dst)=some t') (hv:ev env (.tmp t') = .v (.bool b)) (hd:o.dst=some t) (hb:Nat.blt t cx.n=true) (h:Op1 P (ev env) (fun b=>hlook b heap) nx o.op x []) (hn:RunT P cx ops l ⟨(t,x)::env,heap,nx,[]⟩ K):RunT P cx ops (i::l) ⟨env,heap,nx,[]⟩ K :=
 RunT.opg (st:=⟨env,heap,nx,[]⟩) ho hg ht hv (dstB_some hd hb) rfl h (by rw[hd];exact hn)
theorem RunT.xn (ho:ops[i]?=some o) (hg:o.guard=some (j,b)) (ht:(ops[j]?).bind (·.dst)=some t') (hv:ev env (.tmp t') = .v (.bool !b)) (hd:o.dst=some t) (hb:Nat.blt t cx.n=true) (hn:RunT P cx ops l ⟨(t,.tup [])::env,heap,nx,[]⟩ K):RunT P cx ops (i::l) ⟨env,heap,nx,[]⟩ K :=
 RunT.no (st:=⟨env,heap,nx,[]⟩) ho hg ht hv (dstB_some hd hb) (by rw[hd];exact hn)
theorem RunT.xu (ho:ops[i]?=some o) (hg:o.guard=some (j,b)) (ht:(ops[j]?).bind (·.dst)=some t') (hv:ev env (.tmp t') = .tup []) (hd:o.dst=some t) (hb:Nat.blt t cx.n=true) (hn:RunT P cx ops l ⟨(t,.tup [])::env,heap,nx,[]⟩ K):RunT P cx ops (i::l) ⟨env,heap,nx,[]⟩ K :=
 RunT.no0 (st:=⟨env,heap,nx,[]⟩) ho hg ht hv (dstB_some hd hb) (by rw[hd];exact hn)
end
section
variable {P:Program} {cx:Cx} {ops:Array Oper} {M:Msk} {n0:Nat} {A:List Nat} {l:List Nat} {acc:List It} {i:Nat} {env:Env} {heap:Hp} {nx t t' j:Nat} {al:List Nat} {K:St→Prop} {o:Oper} {x:SV} {b:Bool}
theorem RunD.on1 {p0:Nat×Option Blk} (ho:ops[i]?=some o) (hg:o.guard=none) (hd:o.dst=none) (h:Op1 P (evK (M.sw i) env) (hpM M i ⟨env,heap,nx,al⟩) (idAt n0 i) o.op x [p0]) (hf:freshB ⟨env,heap,nx,al⟩ (idAt n0 i)=true) (hn:RunD P cx ops M n0 A l (acc++[⟨i,x,[p0]⟩]) ⟨env,p0::heap,nx,p0.1::al⟩ K):RunD P cx ops M n0 A (i::l) acc ⟨env,heap,nx,al⟩ K :=
 RunD.op0 (st:=⟨env,heap,nx,al⟩) ho hg (dstB_none hd) h hf (by rw[hd];exact hn)
theorem RunD.ot0  (ho:ops[i]?=some o) (hg:o.guard=none) (hd:o.dst=some t) (hb:Nat.blt t cx.n=true) (h:Op1 P (evK (M.sw i) env) (hpM M i ⟨env,heap,nx,al⟩) (idAt n0 i) o.op x []) (hf:freshB ⟨env,heap,nx,al⟩ (idAt n0 i)=true) (hn:RunD P cx ops M n0 A l (acc++[⟨i,x,[]⟩]) ⟨(t,x)::env,heap,nx,al⟩ K):RunD P cx ops M n0 A (i::l) acc ⟨env,heap,nx,al⟩ K :=
 RunD.op0 (st:=⟨env,heap,nx,al⟩) ho hg (dstB_some hd hb) h hf (by rw[hd];exact hn)
theorem RunD.ot1 {p0:Nat×Option Blk} (ho:ops[i]?=some o) (hg:o.guard=none) (hd:o.dst=some t) (hb:Nat.blt t cx.n=true) (h:Op1 P (evK (M.sw i) env) (hpM M i ⟨env,heap,nx,al⟩) (idAt n0 i) o.op x [p0]) (hf:freshB ⟨env,heap,nx,al⟩ (idAt n0 i)=true) (hn:RunD P cx ops M n0 A l (acc++[⟨i,x,[p0]⟩]) ⟨(t,x)::env,p0::heap,nx,p0.1::al⟩ K):RunD P cx ops M n0 A (i::l) acc ⟨env,heap,nx,al⟩ K :=
 RunD.op0 (st:=⟨env,heap,nx,al⟩) ho hg (dstB_some hd hb) h hf (by rw[hd];exact hn)
theorem RunD.ot2 {p0:Nat×Option Blk} {p1:Nat×Option Blk} (ho:ops[i]?=some o) (hg:o.guard=none) (hd:o.dst=some t) (hb:Nat.blt t cx.n=true) (h:Op1 P (evK (M.sw i) env) (hpM M i ⟨env,heap,nx,al⟩) (idAt n0 i) o.op x [p0,p1]) (hf:freshB ⟨env,heap,nx,al⟩ (idAt n0 i)=true) (hn:RunD P cx ops M n0 A l (acc++[⟨i,x,[p0,p1]⟩]) ⟨(t,x)::env,p0::p1::heap,nx,p0.1::p1.1::al⟩ K):RunD P cx ops M n0 A (i::l) acc ⟨env,heap,nx,al⟩ K :=
 RunD.op0 (st:=⟨env,heap,nx,al⟩) ho hg (dstB_some hd hb) h hf (by rw[hd];exact hn)
theorem RunD.gt0  (ho:ops[i]?=some o) (hg:o.guard=some (j,b)) (ht:(ops[j]?).bind (·.dst)=some t') (hv:evK (M.sw i) env (.tmp t') = .v (.bool b)) (hd:o.dst=some t) (hb:Nat.blt t cx.n=true) (h:Op1 P (evK (M.sw i) env) (hpM M i ⟨env,heap,nx,al⟩) (idAt n0 i) o.op x []) (hf:freshB ⟨env,heap,nx,al⟩ (idAt n0 i)=true) (hn:RunD P cx ops M n0 A l (acc++[⟨i,x,[]⟩]) ⟨(t,x)::env,heap,nx,al⟩ K):RunD P cx ops M n0 A (i::l) acc ⟨env,heap,nx,al⟩ K :=
 RunD.opg (st:=⟨env,heap,nx,al⟩) ho hg ht hv (dstB_some hd hb) h hf (by rw[hd];exact hn)
theorem RunD.xn (ho:ops[i]?=some o) (hg:o.guard=some (j,b)) (ht:(ops[j]?).bind (·.dst)=some t') (hv:evK (M.sw i) env (.tmp t') = .v (.bool !b)) (hd:o.dst=some t) (hb:Nat.blt t cx.n=true) (hn:RunD P cx ops M n0 A l (acc++[⟨i,.tup [],[]⟩]) ⟨(t,.tup [])::env,heap,nx,al⟩ K):RunD P cx ops M n0 A (i::l) acc ⟨env,heap,nx,al⟩ K :=
 RunD.no (st:=⟨env,heap,nx,al⟩) ho hg ht hv (dstB_some hd hb) (by rw[hd];exact hn)
theorem RunD.xu (ho:ops[i]?=some o) (hg:o.guard=some (j,b)) (ht:(ops[j]?).bind (·.dst)=some t') (hv:evK (M.sw i) env (.tmp t') = .tup []) (hd:o.dst=some t) (hb:Nat.blt t cx.n=true) (hn:RunD P cx ops M n0 A l (acc++[⟨i,.tup [],[]⟩]) ⟨(t,.tup [])::env,heap,nx,al⟩ K):RunD P cx ops M n0 A (i::l) acc ⟨env,heap,nx,al⟩ K :=
 RunD.no0 (st:=⟨env,heap,nx,al⟩) ho hg ht hv (dstB_some hd hb) (by rw[hd];exact hn)
end
end Go.Sh
