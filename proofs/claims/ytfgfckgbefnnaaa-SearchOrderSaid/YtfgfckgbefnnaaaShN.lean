/- Walks over states that are written out: one step each. -/
import Derived.Test.YtfgfckgbefnnaaaShM
set_option linter.unusedVariables false
set_option linter.unusedSimpArgs false
namespace Go.Sh
open Go.RowKit
theorem dstB_some {n t:Nat} {o:Oper} (h:o.dst=some t) (hb:Nat.blt t n=true):dstB n o=true:=by unfold dstB;rw[h];exact hb
theorem dstB_none {n:Nat} {o:Oper} (h:o.dst=none):dstB n o=true:=by unfold dstB;rw[h]
section
variable {P:Program} {cx:Cx} {ops:Array Oper} {i:Nat} {l:List Nat} {env:Env} {heap:Hp} {nx n' t t' j:Nat} {K:St→Prop} {o:Oper} {x:SV} {b:Bool}
theorem T.st {Q:Exit→St→Prop} {c:Code} {st st':St} (h:st=st') (hn:T P cx c Q st'):T P cx c Q st:=h▸hn
theorem RunT.on1 {p0:Nat×Option Blk} (ho:ops[i]?=some o) (hg:o.guard=none) (hd:o.dst=none) (h:Op1 P (ev env) (fun b=>hlook b heap) nx o.op x [p0]) (hx:nx+8=n') (hn:RunT P cx ops l ⟨env,p0::heap,n',[]⟩ K):RunT P cx ops (i::l) ⟨env,heap,nx,[]⟩ K :=
 RunT.op0 (st:=⟨env,heap,nx,[]⟩) ho hg (dstB_none hd) rfl h (by rw[hd];subst hx;exact hn)
theorem RunT.ot0  (ho:ops[i]?=some o) (hg:o.guard=none) (hd:o.dst=some t) (hb:Nat.blt t cx.n=true) (h:Op1 P (ev env) (fun b=>hlook b heap) nx o.op x []) (hn:RunT P cx ops l ⟨(t,x)::env,heap,nx,[]⟩ K):RunT P cx ops (i::l) ⟨env,heap,nx,[]⟩ K :=
 RunT.op0 (st:=⟨env,heap,nx,[]⟩) ho hg (dstB_some hd hb) rfl h (by rw[hd];exact hn)
theorem RunT.ot1 {p0:Nat×Option Blk} (ho:ops[i]?=some o) (hg:o.guard=none) (hd:o.dst=some t) (hb:Nat.blt t cx.n=true) (h:Op1 P (ev env) (fun b=>hlook b heap) nx o.op x [p0]) (hx:nx+8=n') (hn:RunT P cx ops l ⟨(t,x)::env,p0::heap,n',[]⟩ K):RunT P cx ops (i::l) ⟨env,heap,nx,[]⟩ K :=
 RunT.op0 (st:=⟨env,heap,nx,[]⟩) ho hg (dstB_some hd hb) rfl h (by rw[hd];subst hx;exact hn)
theorem RunT.ot2 {p0:Nat×Option Blk} {p1:Nat×Option Blk} (ho:ops[i]?=some o) (hg:o.guard=none) (hd:o.dst=some t) (hb:Nat.blt t cx.n=true) (h:Op1 P (ev env) (fun b=>hlook b heap) nx o.op x [p0,p1]) (hx:nx+8=n') (hn:RunT P cx ops l ⟨(t,x)::env,p0::p1::heap,n',[]⟩ K):RunT P cx ops (i::l) ⟨env,heap,nx,[]⟩ K :=
 RunT.op0 (st:=⟨env,heap,nx,[]⟩) ho hg (dstB_some hd hb) rfl h (by rw[hd];subst hx;exact hn)
theorem RunT.ot3 {p0:Nat×Option Blk} {p1:Nat×Option Blk} {p2:Nat×Option Blk} (ho:ops[i]?=some o) (hg:o.guard=none) (hd:o.dst=some t) (hb:Nat.blt t cx.n=true) (h:Op1 P (ev env) (fun b=>hlook b heap) nx o.op x [p0,p1,p2]) (hx:nx+8=n') (hn:RunT P cx ops l ⟨(t,x)::env,p0::p1::p2::heap,n',[]⟩ K):RunT P cx ops (i::l) ⟨env,heap,nx,[]⟩ K :=
 RunT.op0 (st:=⟨env,heap,nx,[]⟩) ho hg (dstB_some hd hb) rfl h (by rw[hd];subst hx;exact hn)
theorem RunT.ot5 {p0:Nat×Option Blk} {p1:Nat×Option Blk} {p2:Nat×Option Blk} {p3:Nat×Option Blk} {p4:Nat×Option Blk} (ho:ops[i]?=some o) (hg:o.guard=none) (hd:o.dst=some t) (hb:Nat.blt t cx.n=true) (h:Op1 P (ev env) (fun b=>hlook b heap) nx o.op x [p0,p1,p2,p3,p4]) (hx:nx+8=n') (hn:RunT P cx ops l ⟨(t,x)::env,p0::p1::p2::p3::p4::heap,n',[]⟩ K):RunT P cx ops (i::l) ⟨env,heap,nx,[]⟩ K :=
 RunT.op0 (st:=⟨env,heap,nx,[]⟩) ho hg (dstB_some hd hb) rfl h (by rw[hd];subst hx;exact hn)
theorem RunT.ot9 {p0 p1 p2 p3 p4 p5 p6 p7 p8:Nat×Option Blk} (ho:ops[i]?=some o) (hg:o.guard=none) (hd:o.dst=some t) (hb:Nat.blt t cx.n=true) (h:Op1 P (ev env) (fun b=>hlook b heap) nx o.op x [p0,p1,p2,p3,p4,p5,p6,p7,p8]) (hx:nx+8=n') (hn:RunT P cx ops l ⟨(t,x)::env,p0::p1::p2::p3::p4::p5::p6::p7::p8::heap,n',[]⟩ K):RunT P cx ops (i::l) ⟨env,heap,nx,[]⟩ K :=
 RunT.op0 (st:=⟨env,heap,nx,[]⟩) ho hg (dstB_some hd hb) rfl h (by rw[hd];subst hx;exact hn)
theorem RunT.ot11 {p0 p1 p2 p3 p4 p5 p6 p7 p8 p9 p10:Nat×Option Blk} (ho:ops[i]?=some o) (hg:o.guard=none) (hd:o.dst=some t) (hb:Nat.blt t cx.n=true) (h:Op1 P (ev env) (fun b=>hlook b heap) nx o.op x [p0,p1,p2,p3,p4,p5,p6,p7,p8,p9,p10]) (hx:nx+8=n') (hn:RunT P cx ops l ⟨(t,x)::env,p0::p1::p2::p3::p4::p5::p6::p7::p8::p9::p10::heap,n',[]⟩ K):RunT P cx ops (i::l) ⟨env,heap,nx,[]⟩ K :=
 RunT.op0 (st:=⟨env,heap,nx,[]⟩) ho hg (dstB_some hd hb) rfl h (by rw[hd];subst hx;exact hn)
theorem RunT.gt0  (ho:ops[i]?=some o) (hg:o.guard=some (j,b)) (ht:(ops[j]?).bind (·.dst)=some t') (hv:ev env (.tmp t') = .v (.bool b)) (hd:o.dst=some t) (hb:Nat.blt t cx.n=true) (h:Op1 P (ev env) (fun b=>hlook b heap) nx o.op x []) (hn:RunT P cx ops l ⟨(t,x)::env,heap,nx,[]⟩ K):RunT P cx ops (i::l) ⟨env,heap,nx,[]⟩ K :=
 RunT.opg (st:=⟨env,heap,nx,[]⟩) ho hg ht hv (dstB_some hd hb) rfl h (by rw[hd];exact hn)
theorem RunT.gt1 {p0:Nat×Option Blk} (ho:ops[i]?=some o) (hg:o.guard=some (j,b)) (ht:(ops[j]?).bind (·.dst)=some t') (hv:ev env (.tmp t') = .v (.bool b)) (hd:o.dst=some t) (hb:Nat.blt t cx.n=true) (h:Op1 P (ev env) (fun b=>hlook b heap) nx o.op x [p0]) (hx:nx+8=n') (hn:RunT P cx ops l ⟨(t,x)::env,p0::heap,n',[]⟩ K):RunT P cx ops (i::l) ⟨env,heap,nx,[]⟩ K :=
 RunT.opg (st:=⟨env,heap,nx,[]⟩) ho hg ht hv (dstB_some hd hb) rfl h (by rw[hd];subst hx;exact hn)
theorem RunT.xn (ho:ops[i]?=some o) (hg:o.guard=some (j,b)) (ht:(ops[j]?).bind (·.dst)=some t') (hv:ev env (.tmp t') = .v (.bool !b)) (hd:o.dst=some t) (hb:Nat.blt t cx.n=true) (hn:RunT P cx ops l ⟨(t,.tup [])::env,heap,nx,[]⟩ K):RunT P cx ops (i::l) ⟨env,heap,nx,[]⟩ K :=
 RunT.no (st:=⟨env,heap,nx,[]⟩) ho hg ht hv (dstB_some hd hb) (by rw[hd];exact hn)
theorem RunT.xu (ho:ops[i]?=some o) (hg:o.guard=some (j,b)) (ht:(ops[j]?).bind (·.dst)=some t') (hv:ev env (.tmp t') = .tup []) (hd:o.dst=some t) (hb:Nat.blt t cx.n=true) (hn:RunT P cx ops l ⟨(t,.tup [])::env,heap,nx,[]⟩ K):RunT P cx ops (i::l) ⟨env,heap,nx,[]⟩ K :=
 RunT.no0 (st:=⟨env,heap,nx,[]⟩) ho hg ht hv (dstB_some hd hb) (by rw[hd];exact hn)
theorem RunT.nilS {xs:List SV} {t0 e ty:TypeId} {u v:Operand} (ho:ops[i]?=some o) (hg:o.guard=none) (hd:o.dst=some t) (hb:Nat.blt t cx.n=true) (hop:o.op = .binOp .eql t0 u v ty) (hu:P.underlying t0=some (.slice e)) (hx:ev env u = .lst xs) (hy:ev env v = .v (.slice none 0 0))
  (h:∀b,(b=true→xs=[])→RunT P cx ops l ⟨(t,.v (.bool b))::env,heap,nx,[]⟩ K):RunT P cx ops (i::l) ⟨env,heap,nx,[]⟩ K:=by
 intro a w hR
 obtain⟨m,hM⟩:=id hR
 have hv:=hM.ev u
 rw[hx] at hv
 obtain⟨p,n,c,hq,hn⟩:∃p n c,a.eval u = .slice p n c∧(p=none→xs=[]):=by
  generalize a.eval u=q at hv
  cases hv with
  | one hv =>
   cases hv with
   | nil=>exact⟨_,_,_,rfl,fun _=>rfl⟩
   | lst C=>exact⟨_,_,_,rfl,fun h=>by cases h⟩
 have hy':a.eval v = .slice none 0 0:=EvR.evV (fun x=>hM.ev x) hy
 have hrun:(execOp a.eval o).run P w = .ok (.value (.bool p.isNone)) w:=by
  have hex:execOp a.eval o=execOp a.eval ⟨o.dst,.binOp .eql t0 u v ty,o.type,o.pos,o.after,o.guard⟩:=by rw[← hop]
  rw[hex]
  simp only[execOp,hq,hy']
  have:=eqSN (P:=P) (x:=u) (y:=v) hu p n c w
  unfold binS at this
  rw[Sem.run_bind,this]
  rfl
 have hw:Region.wanted o (yielded ops a.tmps)=true:=by unfold Region.wanted;rw[hg]
 simp only[wpOps,ho,hw,if_true]
 refine .inl ?_
 unfold Oper.wp
 rw[hrun]
 refine h p.isNone (fun hh=>hn (by cases p with | none=>rfl | some=>cases hh)) _ w ⟨m,?_⟩
 have:=hM.put (d:=o.dst) (x := .v (.bool p.isNone)) (v := .bool p.isNone) (dstB_ok (dstB_some hd hb)) (fun _ => .one (.v rfl))
 rw[hd] at this ⊢
 exact this
end
section
variable {P:Program} {cx:Cx} {ops:Array Oper} {M:Msk} {n0:Nat} {A:List Nat} {l:List Nat} {acc:List It} {i:Nat} {env:Env} {heap:Hp} {nx t t' j:Nat} {al:List Nat} {K:St→Prop} {o:Oper} {x:SV} {b:Bool}
theorem RunD.on1 {p0:Nat×Option Blk} (ho:ops[i]?=some o) (hg:o.guard=none) (hd:o.dst=none) (h:Op1 P (evK (M.sw i) env) (hpM M i ⟨env,heap,nx,al⟩) (idAt n0 i) o.op x [p0]) (hf:freshB ⟨env,heap,nx,al⟩ (idAt n0 i)=true) (hn:RunD P cx ops M n0 A l (acc++[⟨i,x,[p0]⟩]) ⟨env,p0::heap,nx,p0.1::al⟩ K):RunD P cx ops M n0 A (i::l) acc ⟨env,heap,nx,al⟩ K :=
 RunD.op0 (st:=⟨env,heap,nx,al⟩) ho hg (dstB_none hd) h hf (by rw[hd];exact hn)
theorem RunD.ot0  (ho:ops[i]?=some o) (hg:o.guard=none) (hd:o.dst=some t) (hb:Nat.blt t cx.n=true) (h:Op1 P (evK (M.sw i) env) (hpM M i ⟨env,heap,nx,al⟩) (idAt n0 i) o.op x []) (hf:freshB ⟨env,heap,nx,al⟩ (idAt n0 i)=true) (hn:RunD P cx ops M n0 A l (acc++[⟨i,x,[]⟩]) ⟨(t,x)::env,heap,nx,al⟩ K):RunD P cx ops M n0 A (i::l) acc ⟨env,heap,nx,al⟩ K :=
 RunD.op0 (st:=⟨env,heap,nx,al⟩) ho hg (dstB_some hd hb) h hf (by rw[hd];exact hn)
theorem RunD.ot1 {p0:Nat×Option Blk} (ho:ops[i]?=some o) (hg:o.guard=none) (hd:o.dst=some t) (hb:Nat.blt t cx.n=true) (h:Op1 P (evK (M.sw i) env) (hpM M i ⟨env,heap,nx,al⟩) (idAt n0 i) o.op x [p0]) (hf:freshB ⟨env,heap,nx,al⟩ (idAt n0 i)=true) (hn:RunD P cx ops M n0 A l (acc++[⟨i,x,[p0]⟩]) ⟨(t,x)::env,p0::heap,nx,p0.1::al⟩ K):RunD P cx ops M n0 A (i::l) acc ⟨env,heap,nx,al⟩ K :=
 RunD.op0 (st:=⟨env,heap,nx,al⟩) ho hg (dstB_some hd hb) h hf (by rw[hd];exact hn)
theorem RunD.ot2 {p0:Nat×Option Blk} {p1:Nat×Option Blk} (ho:ops[i]?=some o) (hg:o.guard=none) (hd:o.dst=some t) (hb:Nat.blt t cx.n=true) (h:Op1 P (evK (M.sw i) env) (hpM M i ⟨env,heap,nx,al⟩) (idAt n0 i) o.op x [p0,p1]) (hf:freshB ⟨env,heap,nx,al⟩ (idAt n0 i)=true) (hn:RunD P cx ops M n0 A l (acc++[⟨i,x,[p0,p1]⟩]) ⟨(t,x)::env,p0::p1::heap,nx,p0.1::p1.1::al⟩ K):RunD P cx ops M n0 A (i::l) acc ⟨env,heap,nx,al⟩ K :=
 RunD.op0 (st:=⟨env,heap,nx,al⟩) ho hg (dstB_some hd hb) h hf (by rw[hd];exact hn)
theorem RunD.ot3 {p0:Nat×Option Blk} {p1:Nat×Option Blk} {p2:Nat×Option Blk} (ho:ops[i]?=some o) (hg:o.guard=none) (hd:o.dst=some t) (hb:Nat.blt t cx.n=true) (h:Op1 P (evK (M.sw i) env) (hpM M i ⟨env,heap,nx,al⟩) (idAt n0 i) o.op x [p0,p1,p2]) (hf:freshB ⟨env,heap,nx,al⟩ (idAt n0 i)=true) (hn:RunD P cx ops M n0 A l (acc++[⟨i,x,[p0,p1,p2]⟩]) ⟨(t,x)::env,p0::p1::p2::heap,nx,p0.1::p1.1::p2.1::al⟩ K):RunD P cx ops M n0 A (i::l) acc ⟨env,heap,nx,al⟩ K :=
 RunD.op0 (st:=⟨env,heap,nx,al⟩) ho hg (dstB_some hd hb) h hf (by rw[hd];exact hn)
theorem RunD.ot5 {p0:Nat×Option Blk} {p1:Nat×Option Blk} {p2:Nat×Option Blk} {p3:Nat×Option Blk} {p4:Nat×Option Blk} (ho:ops[i]?=some o) (hg:o.guard=none) (hd:o.dst=some t) (hb:Nat.blt t cx.n=true) (h:Op1 P (evK (M.sw i) env) (hpM M i ⟨env,heap,nx,al⟩) (idAt n0 i) o.op x [p0,p1,p2,p3,p4]) (hf:freshB ⟨env,heap,nx,al⟩ (idAt n0 i)=true) (hn:RunD P cx ops M n0 A l (acc++[⟨i,x,[p0,p1,p2,p3,p4]⟩]) ⟨(t,x)::env,p0::p1::p2::p3::p4::heap,nx,p0.1::p1.1::p2.1::p3.1::p4.1::al⟩ K):RunD P cx ops M n0 A (i::l) acc ⟨env,heap,nx,al⟩ K :=
 RunD.op0 (st:=⟨env,heap,nx,al⟩) ho hg (dstB_some hd hb) h hf (by rw[hd];exact hn)
theorem RunD.ot9 {p0 p1 p2 p3 p4 p5 p6 p7 p8:Nat×Option Blk} (ho:ops[i]?=some o) (hg:o.guard=none) (hd:o.dst=some t) (hb:Nat.blt t cx.n=true) (h:Op1 P (evK (M.sw i) env) (hpM M i ⟨env,heap,nx,al⟩) (idAt n0 i) o.op x [p0,p1,p2,p3,p4,p5,p6,p7,p8]) (hf:freshB ⟨env,heap,nx,al⟩ (idAt n0 i)=true) (hn:RunD P cx ops M n0 A l (acc++[⟨i,x,[p0,p1,p2,p3,p4,p5,p6,p7,p8]⟩]) ⟨(t,x)::env,p0::p1::p2::p3::p4::p5::p6::p7::p8::heap,nx,p0.1::p1.1::p2.1::p3.1::p4.1::p5.1::p6.1::p7.1::p8.1::al⟩ K):RunD P cx ops M n0 A (i::l) acc ⟨env,heap,nx,al⟩ K :=
 RunD.op0 (st:=⟨env,heap,nx,al⟩) ho hg (dstB_some hd hb) h hf (by rw[hd];exact hn)
theorem RunD.ot11 {p0 p1 p2 p3 p4 p5 p6 p7 p8 p9 p10:Nat×Option Blk} (ho:ops[i]?=some o) (hg:o.guard=none) (hd:o.dst=some t) (hb:Nat.blt t cx.n=true) (h:Op1 P (evK (M.sw i) env) (hpM M i ⟨env,heap,nx,al⟩) (idAt n0 i) o.op x [p0,p1,p2,p3,p4,p5,p6,p7,p8,p9,p10]) (hf:freshB ⟨env,heap,nx,al⟩ (idAt n0 i)=true) (hn:RunD P cx ops M n0 A l (acc++[⟨i,x,[p0,p1,p2,p3,p4,p5,p6,p7,p8,p9,p10]⟩]) ⟨(t,x)::env,p0::p1::p2::p3::p4::p5::p6::p7::p8::p9::p10::heap,nx,p0.1::p1.1::p2.1::p3.1::p4.1::p5.1::p6.1::p7.1::p8.1::p9.1::p10.1::al⟩ K):RunD P cx ops M n0 A (i::l) acc ⟨env,heap,nx,al⟩ K :=
 RunD.op0 (st:=⟨env,heap,nx,al⟩) ho hg (dstB_some hd hb) h hf (by rw[hd];exact hn)
theorem RunD.gt0  (ho:ops[i]?=some o) (hg:o.guard=some (j,b)) (ht:(ops[j]?).bind (·.dst)=some t') (hv:evK (M.sw i) env (.tmp t') = .v (.bool b)) (hd:o.dst=some t) (hb:Nat.blt t cx.n=true) (h:Op1 P (evK (M.sw i) env) (hpM M i ⟨env,heap,nx,al⟩) (idAt n0 i) o.op x []) (hf:freshB ⟨env,heap,nx,al⟩ (idAt n0 i)=true) (hn:RunD P cx ops M n0 A l (acc++[⟨i,x,[]⟩]) ⟨(t,x)::env,heap,nx,al⟩ K):RunD P cx ops M n0 A (i::l) acc ⟨env,heap,nx,al⟩ K :=
 RunD.opg (st:=⟨env,heap,nx,al⟩) ho hg ht hv (dstB_some hd hb) h hf (by rw[hd];exact hn)
theorem RunD.gt1 {p0:Nat×Option Blk} (ho:ops[i]?=some o) (hg:o.guard=some (j,b)) (ht:(ops[j]?).bind (·.dst)=some t') (hv:evK (M.sw i) env (.tmp t') = .v (.bool b)) (hd:o.dst=some t) (hb:Nat.blt t cx.n=true) (h:Op1 P (evK (M.sw i) env) (hpM M i ⟨env,heap,nx,al⟩) (idAt n0 i) o.op x [p0]) (hf:freshB ⟨env,heap,nx,al⟩ (idAt n0 i)=true) (hn:RunD P cx ops M n0 A l (acc++[⟨i,x,[p0]⟩]) ⟨(t,x)::env,p0::heap,nx,p0.1::al⟩ K):RunD P cx ops M n0 A (i::l) acc ⟨env,heap,nx,al⟩ K :=
 RunD.opg (st:=⟨env,heap,nx,al⟩) ho hg ht hv (dstB_some hd hb) h hf (by rw[hd];exact hn)
theorem RunD.xn (ho:ops[i]?=some o) (hg:o.guard=some (j,b)) (ht:(ops[j]?).bind (·.dst)=some t') (hv:evK (M.sw i) env (.tmp t') = .v (.bool !b)) (hd:o.dst=some t) (hb:Nat.blt t cx.n=true) (hn:RunD P cx ops M n0 A l (acc++[⟨i,.tup [],[]⟩]) ⟨(t,.tup [])::env,heap,nx,al⟩ K):RunD P cx ops M n0 A (i::l) acc ⟨env,heap,nx,al⟩ K :=
 RunD.no (st:=⟨env,heap,nx,al⟩) ho hg ht hv (dstB_some hd hb) (by rw[hd];exact hn)
theorem RunD.xu (ho:ops[i]?=some o) (hg:o.guard=some (j,b)) (ht:(ops[j]?).bind (·.dst)=some t') (hv:evK (M.sw i) env (.tmp t') = .tup []) (hd:o.dst=some t) (hb:Nat.blt t cx.n=true) (hn:RunD P cx ops M n0 A l (acc++[⟨i,.tup [],[]⟩]) ⟨(t,.tup [])::env,heap,nx,al⟩ K):RunD P cx ops M n0 A (i::l) acc ⟨env,heap,nx,al⟩ K :=
 RunD.no0 (st:=⟨env,heap,nx,al⟩) ho hg ht hv (dstB_some hd hb) (by rw[hd];exact hn)
end
end Go.Sh
