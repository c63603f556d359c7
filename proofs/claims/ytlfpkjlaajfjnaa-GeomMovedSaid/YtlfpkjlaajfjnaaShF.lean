/- Short forms for walks. -/
import Derived.Test.YtlfpkjlaajfjnaaShE
set_option linter.unusedVariables false
set_option linter.unusedSimpArgs false
namespace Go.Sh
open Go.RowKit

theorem bo {c b:Bool} (h:c=b):SV.v (.bool c)=SV.v (.bool b):=by rw[h]

section
variable {P:Program} {cx:Cx} {ops:Array Oper} {i:Nat} {l:List Nat} {st:St} {K:St→Prop} {o:Oper} {x:SV} {u:Hp}

theorem RunT.cases {t:Tmp} {c:Bool} (hv:ev st.env (.tmp t) = .v (.bool c)) (h1:c=true→RunT P cx ops l st K) (h2:c=false→RunT P cx ops l st K):RunT P cx ops l st K:=by
 cases c
 ·exact h2 rfl
 ·exact h1 rfl

theorem RunT.callc {al:Bool} {x:Operand} {args:Array Operand} {ts:Array TypeId} {f:FuncId} {ys cs cs':List SV} {res:SV} (ho:ops[i]?=some o) (hg:o.guard=none) (hd:dstB cx.n o=true) (hal:st.al=[])
  (hop:o.op = .call ⟨.value x,args,ts⟩) (hx:ev st.env x = .clo f cs) (h:PC P al f (ys++cs') res) (hc:AllR (ArgOk (fun b=>hlook b st.heap) al) cs cs') (ha:AllR (ArgOk (fun b=>hlook b st.heap) al) (args.toList.map (ev st.env)) ys) (h8:(impT 0 res).2.length≤8)
  (hn:RunT P cx ops l (st.nxt o.dst (impT st.nx res).1 (newsOf st.nx (impT 0 res).2)) K):RunT P cx ops (i::l) st K :=
 RunT.op0 ho hg hd hal (by rw[hop];exact .call hx hc ha h h8) hn

theorem T.cond2 {c:Operand} {x y:Code} {t:Bool} {Q:Exit→St→Prop} (hc:ev st.env c = .v (.bool t)) (h1:t=true→T P cx x Q st) (h2:t=false→T P cx y Q st):T P cx (.cond c x y) Q st:=by
 refine T.cond hc ?_
 cases t
 ·exact h2 rfl
 ·exact h1 rfl
theorem T.condT {c:Operand} {x y:Code} {Q:Exit→St→Prop} (hc:ev st.env c = .v (.bool true)) (h:T P cx x Q st):T P cx (.cond c x y) Q st:=T.cond hc h
theorem T.condF {c:Operand} {x y:Code} {Q:Exit→St→Prop} (hc:ev st.env c = .v (.bool false)) (h:T P cx y Q st):T P cx (.cond c x y) Q st:=T.cond hc h

variable {M:Msk} {n0:Nat} {A:List Nat} {acc:List It}

theorem RunD.cases {t:Tmp} {c:Bool} (hv:ev st.env (.tmp t) = .v (.bool c)) (h1:c=true→RunD P cx ops M n0 A l acc st K) (h2:c=false→RunD P cx ops M n0 A l acc st K):RunD P cx ops M n0 A l acc st K:=by
 cases c
 ·exact h2 rfl
 ·exact h1 rfl
theorem RunD.op0 (ho:ops[i]?=some o) (hg:o.guard=none) (hd:dstB cx.n o=true)
  (h:Op1 P (evK (M.sw i) st.env) (hpM M i st) (idAt n0 i) o.op x u) (hf:freshB st (idAt n0 i)=true) (hn:RunD P cx ops M n0 A l (acc++[⟨i,x,u⟩]) (st.app o.dst x u) K):RunD P cx ops M n0 A (i::l) acc st K :=
 RunD.op ho hd (by unfold GuardIs;rw[hg]) h hf hn
theorem RunD.opg {j:Nat} {b:Bool} {t:Tmp} (ho:ops[i]?=some o) (hg:o.guard=some (j,b)) (ht:(ops[j]?).bind (·.dst)=some t) (hv:evK (M.sw i) st.env (.tmp t) = .v (.bool b)) (hd:dstB cx.n o=true)
  (h:Op1 P (evK (M.sw i) st.env) (hpM M i st) (idAt n0 i) o.op x u) (hf:freshB st (idAt n0 i)=true) (hn:RunD P cx ops M n0 A l (acc++[⟨i,x,u⟩]) (st.app o.dst x u) K):RunD P cx ops M n0 A (i::l) acc st K :=
 RunD.op ho hd (by unfold GuardIs;rw[hg];exact⟨t,ht,.inl (by rw[hv];cases b <;> rfl)⟩) h hf hn
theorem RunD.no {j:Nat} {b:Bool} {t:Tmp} (ho:ops[i]?=some o) (hg:o.guard=some (j,b)) (ht:(ops[j]?).bind (·.dst)=some t) (hv:evK (M.sw i) st.env (.tmp t) = .v (.bool !b)) (hd:dstB cx.n o=true)
  (hn:RunD P cx ops M n0 A l (acc++[⟨i,.tup [],[]⟩]) (st.app o.dst (.tup []) []) K):RunD P cx ops M n0 A (i::l) acc st K :=
 RunD.skip ho hd (by unfold GuardIs;rw[hg];exact⟨t,ht,.inl (by rw[hv];cases b <;> rfl)⟩) hn
theorem RunD.no0 {j:Nat} {b:Bool} {t:Tmp} (ho:ops[i]?=some o) (hg:o.guard=some (j,b)) (ht:(ops[j]?).bind (·.dst)=some t) (hv:evK (M.sw i) st.env (.tmp t) = .tup []) (hd:dstB cx.n o=true)
  (hn:RunD P cx ops M n0 A l (acc++[⟨i,.tup [],[]⟩]) (st.app o.dst (.tup []) []) K):RunD P cx ops M n0 A (i::l) acc st K :=
 RunD.skip ho hd (by unfold GuardIs;rw[hg];exact⟨t,ht,.inr ⟨hv,rfl⟩⟩) hn
end

/-! ### Operations on numbers -/
section
variable {P:Program} {t:TypeId} {x y:Operand} {k k':IntKind} {a b:Int} (w:World)
theorem b_add:(binS .add t x y (.int k a) (.int k b)).run P w = .ok (.int k (k.wrap (a+b))) w:=by simp [binS,eqGuard,binOp,Op.intArith]
theorem b_sub:(binS .sub t x y (.int k a) (.int k b)).run P w = .ok (.int k (k.wrap (a-b))) w:=by simp [binS,eqGuard,binOp,Op.intArith]
theorem b_mul:(binS .mul t x y (.int k a) (.int k b)).run P w = .ok (.int k (k.wrap (a * b))) w:=by simp [binS,eqGuard,binOp,Op.intArith]
theorem b_quo (hb:b ≠ 0):(binS .quo t x y (.int k a) (.int k b)).run P w = .ok (.int k (k.wrap (a.tdiv b))) w:=by simp [binS,eqGuard,binOp,Op.intDiv,hb]
theorem b_rem (hb:b ≠ 0):(binS .rem t x y (.int k a) (.int k b)).run P w = .ok (.int k (a.tmod b)) w:=by simp [binS,eqGuard,binOp,Op.intDiv,hb]
theorem b_lss:(binS .lss t x y (.int k a) (.int k b)).run P w = .ok (.bool (decide (a < b))) w:=by simp [binS,eqGuard,binOp,Op.intCmp]
theorem b_leq:(binS .leq t x y (.int k a) (.int k b)).run P w = .ok (.bool (decide (a≤b))) w:=by simp [binS,eqGuard,binOp,Op.intCmp]
theorem b_gtr:(binS .gtr t x y (.int k a) (.int k b)).run P w = .ok (.bool (decide (b < a))) w:=by simp [binS,eqGuard,binOp,Op.intCmp]
theorem b_geq:(binS .geq t x y (.int k a) (.int k b)).run P w = .ok (.bool (decide (b≤a))) w:=by simp [binS,eqGuard,binOp,Op.intCmp]
theorem b_eql:(binS .eql t x y (.int k a) (.int k b)).run P w = .ok (.bool (decide (a=b))) w:=by
 simp [binS,eqGuard,binOp,Op.intCmp]
 by_cases h:a=b <;> simp [h]
theorem b_neq:(binS .neq t x y (.int k a) (.int k b)).run P w = .ok (.bool (!decide (a=b))) w:=by
 simp [binS,eqGuard,binOp,Op.intCmp]
 by_cases h:a=b <;> simp [h]
theorem u_not {c:Bool} : (Op.unary .not (.bool c)).run P w = .ok (.bool !c) w:=rfl
theorem c_int {s d:TypeId} (hs:∃e,P.underlying s=some e) (hd:P.underlying d=some (.int k')):(convert s d (.int k a)).run P w = .ok (.int k' (k'.wrap a)) w:=by
 obtain⟨e,hs⟩:=hs
 simp [convert,run_underlying hs,run_underlying hd,Conv.intToInt]
end
end Go.Sh
