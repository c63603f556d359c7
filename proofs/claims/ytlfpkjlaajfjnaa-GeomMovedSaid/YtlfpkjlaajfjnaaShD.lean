/- The rules for code; a function's contract out of the walk through its body. -/
import Derived.Test.YtlfpkjlaajfjnaaShC
set_option linter.unusedVariables false
set_option linter.unusedSimpArgs false
namespace Go.Sh
open Go.RowKit

/-! ### Drawn regions, operation by operation -/
def evK (f:Nat→Bool) (env:Env):Operand→SV
 | .tmp t=>bif f t then .junk else (look t env).getD .junk
 | x=>ev env x

theorem evM_eq (M:Msk) (i:Nat) (st:St):evM M i st=evK (M.sw i) st.env:=by
 funext x
 cases x with
 | tmp t =>
  simp only[evM,Go.Sh.ev,look_mask,evK]
  cases M.sw i t <;> rfl
 | _=>rfl

def unordB (A:List Nat) (i j:Nat):Bool := !(Nat.beq i j) && !(ordB A i j) && !(ordB A j i)

def dstList (ops:Array Oper):List (Option Tmp):=ops.toList.map (·.dst)

def mskOf (A:List Nat) (ds:List (Option Tmp)) (n0:Nat) (wr:List (Nat×List Nat)):Msk where
 sw i t:=ds.zipIdx.any fun(d,j)=>match d with | some s=>Nat.beq s t && unordB A i j | none=>false
 bw i b:=ds.zipIdx.any fun(_,j)=>unordB A i j && ((Nat.ble (idAt n0 j) b && Nat.blt b (idAt n0 j+8)) || ((look j wr).getD []).contains b)

def fwdB:List Oper→Nat→Bool
 | [],_=>true
 | o::r,i=>o.after.toList.all (fun e => !(Region.binds .any e) || Nat.blt e.on i) && fwdB r (i+1)

theorem fwdB_ok:∀ {l:List Oper} {i:Nat},fwdB l i=true→∀(k:Nat) (o:Oper) (e:Edge),l[k]?=some o→e ∈ o.after→Region.binds .any e=true→e.on < i+k
 | [],_,_,k,o,e,ho,_,_=>by simp at ho
 | p::l,i,h,0,o,e,ho,he,hb=>by
  simp only[fwdB,Bool.and_eq_true] at h
  simp at ho
  subst ho
  have:=List.all_eq_true.1 h.1 e (by simpa using he)
  simp only[hb,Bool.not_true,Bool.false_or] at this
  have:=Nat.le_of_ble_eq_true this
  omega
 | p::l,i,h,k+1,o,e,ho,he,hb=>by
  simp only[fwdB,Bool.and_eq_true] at h
  have:=fwdB_ok h.2 k o e (by simpa using ho) he hb
  omega

def RunD (P:Program) (cx:Cx) (ops:Array Oper) (M:Msk) (n0:Nat) (A:List Nat) (l:List Nat) (acc:List It) (st:St) (K:St→Prop):Prop :=
 ∃its:List It,its.map (·.i)=l∧ValidD P cx ops M n0 its st∧pairsB ops M n0 A (acc++its)=true∧K (finD ops its st)

section
variable {P:Program} {cx:Cx} {ops:Array Oper} {M:Msk} {n0:Nat} {A:List Nat}

theorem RunD.nil {acc:List It} {st:St} {K:St→Prop} (hp:pairsB ops M n0 A acc=true) (h:K st):RunD P cx ops M n0 A [] acc st K:=⟨[],rfl,trivial,by rwa [List.append_nil],h⟩

theorem RunD.op {i:Nat} {l:List Nat} {acc:List It} {st:St} {K:St→Prop} {o:Oper} {x:SV} {u:Hp} (ho:ops[i]?=some o) (hd:dstB cx.n o=true) (hg:GuardIs ops (evK (M.sw i) st.env) o true)
  (h:Op1 P (evK (M.sw i) st.env) (hpM M i st) (idAt n0 i) o.op x u) (hf:freshB st (idAt n0 i)=true) (hn:RunD P cx ops M n0 A l (acc++[⟨i,x,u⟩]) (st.app o.dst x u) K):RunD P cx ops M n0 A (i::l) acc st K:=by
 obtain⟨its,h1,h2,h3,h4⟩:=hn
 have hap:st.ap ops ⟨i,x,u⟩=st.app o.dst x u:=by simp [St.ap,dstOf,ho]
 refine⟨⟨i,x,u⟩::its,by simp [h1],⟨⟨o,ho,hd,.inl ⟨by rw[evM_eq];exact hg,by rw[evM_eq];exact h,hf⟩⟩,by rw[hap];exact h2⟩,by simpa using h3,?_⟩
 show K (finD ops its (st.ap ops ⟨i,x,u⟩))
 rw[hap];exact h4

theorem RunD.skip {i:Nat} {l:List Nat} {acc:List It} {st:St} {K:St→Prop} {o:Oper} (ho:ops[i]?=some o) (hd:dstB cx.n o=true) (hg:GuardIs ops (evK (M.sw i) st.env) o false)
  (hn:RunD P cx ops M n0 A l (acc++[⟨i,(.tup []),[]⟩]) (st.app o.dst (.tup []) []) K):RunD P cx ops M n0 A (i::l) acc st K:=by
 obtain⟨its,h1,h2,h3,h4⟩:=hn
 have hap:st.ap ops ⟨i,(.tup []),[]⟩=st.app o.dst (.tup []) []:=by simp [St.ap,dstOf,ho]
 refine⟨⟨i,(.tup []),[]⟩::its,by simp [h1],⟨⟨o,ho,hd,.inr ⟨by rw[evM_eq];exact hg,rfl,rfl⟩⟩,by rw[hap];exact h2⟩,by simpa using h3,?_⟩
 show K (finD ops its (st.ap ops ⟨i,(.tup []),[]⟩))
 rw[hap];exact h4

theorem ValidD.al (hf:∀it st,StepOk P cx ops M n0 it st→∀k,k ∈ it.u.map (·.1)→k < n0+8 * ops.size∨∃b,hlook k st.heap=some b):True:=trivial

theorem rel_seal {st:St} {a:Act} {w:World} (h:Rel cx st a w) {n:Nat} (hn:st.nx≤n) (hal:st.al.all (fun b=>Nat.blt b n)=true):Rel cx { st with nx:=n,al:=[] } a w:=by
 obtain⟨m,h⟩:=h
 refine⟨m,h.nx_mono hn fun b hb => .inl ?_⟩
 rcases hb with hb | hb
 ·omega
 ·exact Nat.le_of_ble_eq_true (List.all_eq_true.1 hal b hb)

end

/-! ### Code -/
def T (P:Program) (cx:Cx) (c:Code) (Q:Exit→St→Prop) (st:St):Prop :=
 ∀a w,Rel cx st a w→c.wp P (fun e a' w'=>∃st',Q e st'∧Rel cx st' a' w') a w

def Th (next:St→Prop) (Q:Exit→St→Prop):Exit→St→Prop
 | .normal,st=>next st
 | e,st=>Q e st
def Ib (id:Nat) (Q:Exit→St→Prop):Exit→St→Prop
 | .exit id',st=>match Nat.beq id' id with | true=>Q .normal st | false=>Q (.exit id') st
 | e,st=>Q e st

section
variable {P:Program} {cx:Cx} {Q:Exit→St→Prop} {st:St}

theorem T.mono {c:Code} {Q':Exit→St→Prop} (h:T P cx c Q st) (hq:∀e st,Q e st→Q' e st):T P cx c Q' st :=
 fun a w hR=>wp_mono (h a w hR) fun e a w ⟨st',h1,h2⟩=>⟨st',hq _ _ h1,h2⟩

theorem T.weaken {c:Code} {st':St} (hle:∀a w,Rel cx st a w→Rel cx st' a w) (h:T P cx c Q st'):T P cx c Q st:=fun a w hR=>h a w (hle a w hR)

theorem T.skip (h:Q .normal st):T P cx .skip Q st:=fun a w hR=>wp_skip ⟨st,h,hR⟩
theorem T.exit {id:Nat} (h:Q (.exit id) st):T P cx (.exit id) Q st:=fun a w hR=>wp_exit ⟨st,h,hR⟩
theorem T.ret (h:Q .ret st):T P cx .ret Q st:=fun a w hR=>wp_ret ⟨st,h,hR⟩

theorem T.seq {x y:Code} (h:T P cx x (Th (fun st'=>T P cx y Q st') Q) st):T P cx (.seq x y) Q st:=by
 intro a w hR
 refine wp_seq (wp_mono (h a w hR) ?_)
 rintro e a' w' ⟨st',hq,hR'⟩
 cases e with
 | normal=>exact hq a' w' hR'
 | _=>exact⟨st',hq,hR'⟩

theorem T.cond {c:Operand} {x y:Code} {t:Bool} (hc:ev st.env c = .v (.bool t)) (h:T P cx (bif t then x else y) Q st):T P cx (.cond c x y) Q st:=by
 intro a w hR
 obtain⟨m,hM⟩:=id hR
 have hE:EvR cx m st a w (ev st.env):=hM.ev
 refine wp_cond (hE.evV hc) ?_
 cases t
 ·exact h a w hR
 ·exact h a w hR

theorem T.block {id:Nat} {c:Code} (h:T P cx c (Ib id Q) st):T P cx (.block id c) Q st:=by
 intro a w hR
 refine wp_block (wp_mono (h a w hR) ?_)
 rintro e a' w' ⟨st',hq,hR'⟩
 cases e with
 | exit id' =>
  simp only[Ib] at hq
  simp only[Exit.inBlock]
  by_cases he:id'=id
  ·subst he
   rw[if_pos rfl]
   simp at hq
   exact⟨st',hq,hR'⟩
  ·rw[if_neg he]
   have:Nat.beq id' id=false:=by
    cases hb:Nat.beq id' id with
    | false=>rfl
    | true=>exact absurd (Nat.eq_of_beq_eq_true hb) he
   rw[this] at hq
   exact⟨st',hq,hR'⟩
 | _=>exact⟨st',hq,hR'⟩

theorem T.loop {c:Code} (I:Nat→St→Prop) (n:Nat) (h0:I n st) (round:∀n st,I n st→T P cx c (Th (fun st'=>∃n',n' < n∧I n' st') Q) st):T P cx (.loop c) Q st:=by
 intro a w hR
 refine wp_loop_ghost (fun n a w=>∃st,I n st∧Rel cx st a w) n ⟨st,h0,hR⟩ ?_
 rintro n a w ⟨st,hI,hR⟩
 refine wp_mono (round n st hI a w hR) ?_
 rintro e a' w' ⟨st',hq,hR'⟩
 cases e with
 | normal=>obtain⟨n',h1,h2⟩:=hq;exact⟨n',h1,st',h2,hR'⟩
 | _=>exact⟨st',hq,hR'⟩

theorem T.region {id:Nat} {ops:Array Oper} (h:RunT P cx ops (List.range ops.size) st (Q .normal)):T P cx (.region id ops false) Q st:=by
 intro a w hR
 refine wp_mono (wp_region (h a w hR)) ?_
 intro e a' w' hq
 cases e with
 | normal=>exact hq
 | _=>exact hq.elim

theorem T.draw {id:Nat} {ops:Array Oper} {A:List Nat} {wr:List (Nat×List Nat)} (hm:P.follows .mixedOrders=true) (hA:ancs ops.toList []=A) (hfw:fwdB ops.toList 0=true)
  (h:RunD P cx ops (mskOf A (dstList ops) st.nx wr) st.nx A (List.range ops.size) [] { st with al:=[] }
   (fun st'=>st'.al.all (fun b=>Nat.blt b (st.nx+8 * ops.size))=true∧st'.nx=st.nx∧Q .normal { st' with nx:=st.nx+8 * ops.size,al:=[] }))
  (hal:st.al=[]):T P cx (.region id ops true) Q st:=by
 obtain⟨its,h1,h2,h3,h4,h5,h6⟩:=h
 intro a w hR
 have hst:({ st with al:=[] } : St)=st:=by cases st;simp_all
 rw[hst] at h2 h4 h5 h6
 subst hA
 have hR':Rel cx st a { w with drawn:=w.drawn+1 }:=by
  obtain⟨m,hM⟩:=hR
  exact⟨m,hM.drew⟩
 have hQ:∀a' w',Rel cx (finD ops its st) a' w'→∃st',Q .normal st'∧Rel cx st' a' w':=fun a' w' hF=>⟨_,h6,rel_seal hF (by rw[h5];omega) h4⟩
 refine wp_region_any hm ?_
 have hlen:its.length=ops.size:=by have:=congrArg List.length h1;simpa using this
 refine wpAny_of_valid (Q:=fun e a' w'=>∃st',Q e st'∧Rel cx st' a' w') (st0:=finD ops its st) (fun i o e ho he hb=>by have:=fwdB_ok hfw i o e (by simpa using ho) he hb;omega) hQ ops.size its st (Array.replicate ops.size false) a _ h2 hR' (Eqv.refl _) (by simp) (by omega) ?_ ?_ (by simpa using h3) ?_
 ·intro i hi
  have:(Array.replicate ops.size false).getD i true=false:=by simp [hi]
  rw[this]
  simp only[true_iff]
  have hm:i ∈ its.map (·.i):=by rw[h1];simpa using hi
  obtain⟨it,h,rfl⟩:=List.mem_map.1 hm
  exact⟨it,h,rfl⟩
 ·rw[h1];exact List.pairwise_lt_range
 ·intro i o e ho hi he hb
  simp [Array.getD_eq_getD_getElem?,Array.getElem?_replicate] at hi
  split at hi <;> simp at hi

end

/-! ### The end of a function -/
def RvS (P:Program) (st:St) (x:SV):ResultVar→Prop
 | .tmp t=>look t st.env=some x
 | .cell p t=>∃b off cs sz agg,Ty P t sz agg∧look p st.env=some (.ptr b off)∧hlook b st.heap=some (.box cs)∧ldF agg sz cs off=some x

def RvL (P:Program) (st:St):List ResultVar→List SV→Prop
 | [],[]=>True
 | r::rs,x::xs=>RvS P st x r∧RvL P st rs xs
 | _,_=>False

def oneOr:List SV→SV
 | [x]=>x
 | xs => .tup xs

def ren1 (ρ:List (Option Nat)) (y x:SV):Prop :=
 match y with
 | .own k off len=>match ρ.getD k none with
  | some b=>x = .own b off len
  | none=>x = .v (.slice none 0 0)∧off=0∧len=0
 | y=>x=y
def renC (ρ:List (Option Nat)) (y x:SV):Prop :=
 match y,x with
 | .agg ys,.agg xs=>AllR (ren1 ρ) ys xs
 | y,x=>ren1 ρ y x
def renT (ρ:List (Option Nat)) (y x:SV):Prop :=
 match y,x with
 | .tup ys,.tup xs=>AllR (renC ρ) ys xs
 | y,x=>renC ρ y x

def flat1:SV→Bool
 | .v _=>true
 | .clo _ []=>true
 | _=>false
def Flat1:SV→Prop
 | .frs _ xs=>∀x,x ∈ xs→∀y,y ∈ x.cells→flat1 y=true
 | y=>flat1 y=true
def FlatC:SV→Prop
 | .agg cs=>∀y,y ∈ cs→Flat1 y
 | y=>Flat1 y
def FlatT:SV→Prop
 | .tup xs=>∀y,y ∈ xs→FlatC y
 | y=>FlatC y

structure RetOk (P:Program) (rs:Array ResultVar) (al:Bool) (res:SV) (st:St):Prop where
 out:∃xs ρ,RvL P st rs.toList xs∧renT ρ (impT 0 res).1 (oneOr xs) ∧ ρ.length=(impT 0 res).2.length∧(∀(i j b:Nat),ρ[i]?=some (some b) → ρ[j]?=some (some b)→i=j) ∧
  ∀(k:Nat) (x:Blk),(impT 0 res).2[k]?=some x→match ρ.getD k none with | some b=>hlook b st.heap=some x | none=>∃sz,x = .arr false sz []∧0 < sz

def RetQ (P:Program) (rs:Array ResultVar) (al:Bool) (res:SV):Exit→St→Prop
 | .normal,st=>RetOk P rs al res st
 | .ret,st=>RetOk P rs al res st
 | _,_=>False

end Go.Sh
