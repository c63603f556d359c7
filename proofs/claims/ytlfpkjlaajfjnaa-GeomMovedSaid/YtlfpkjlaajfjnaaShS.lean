/- Functions that write blocks of their callers': contracts out of walks. -/
import Derived.Test.YtlfpkjlaajfjnaaShP
set_option linter.unusedVariables false
set_option linter.unusedSimpArgs false
namespace Go.Sh
open Go.RowKit

structure RetOkE (P:Program) (rs:Array ResultVar) (res:SV) (N':Nat) (H':Hp) (st:St):Prop where
 out:∃xs,RvL P st rs.toList xs∧oneOr xs=res
 heap:st.heap=H'
 nx:st.nx=N'
 al:st.al=[]
def RetQE (P:Program) (rs:Array ResultVar) (res:SV) (N':Nat) (H':Hp):Exit→St→Prop
 | .normal,st=>RetOkE P rs res N' H' st
 | .ret,st=>RetOkE P rs res N' H' st
 | _,_=>False

theorem PE.of_T {P:Program} {f:FuncId} {fn:Func} {body:Code} {n r N N':Nat} {args:List SV} {res:SV} {H H':Hp} (hf:P.funcs[f]?=some fn) (hname:(fn.name == "runtime.NumGoroutine")=false) (hb:fn.body=some body)
  (hn:args.length+(fn.ntmps-args.length)=n) (hrN:Nat.ble r N=true)
  (h:∀base B w0 E m0,T P ⟨base,B,w0,n,E,r,m0⟩ body (RetQE P fn.results res N' H') ⟨args.zipIdx.map (fun(x,i)=>(i,x)),H,N,[]⟩):PE P f args r N H res N' H' where
 enters:=⟨fn,hf,hname,by rw[hb];rfl⟩
 calls:=by
  intro w A m vs hA hm hinj hblk hl hv
  refine calls_of_wp hf hb ?_
  have hR:RelM ⟨w.heap.size,A,w,n,OwnP H m,r,m⟩ m ⟨args.zipIdx.map (fun(x,i)=>(i,x)),H,N,[]⟩ { tmps:=vs++Array.replicate (fn.ntmps-vs.size) undef,defers:=[] } w:=by
   refine⟨BelowE.refl _ _ _,Nat.le_refl _,fun g hg=>⟨hA g hg,?_⟩,fun i hi=>?_,rfl,by simp [hl,hn],?_,?_,?_,hinj,fun b x hx=>(hblk b x hx).2⟩
   ·rintro ⟨b,x,s,h1,h2⟩
    exact(hm b _ h2).2.2 hg
   ·exact⟨rfl,Nat.lt_of_lt_of_le hi (Nat.le_of_ble_eq_true hrN)⟩
   ·intro t x hx
    have key:∀(l:List SV) (k:Nat),look t ((l.zipIdx k).map (fun(x,i)=>(i,x)))=some x→∃j,t=k+j∧l[j]?=some x:=by
     intro l
     induction l with
     | nil=>intro k h;simp [look] at h
     | cons y l ih =>
      intro k h
      rw[List.zipIdx_cons,List.map_cons,look_cons] at h
      split at h
      ·rename_i he;exact⟨0,by omega,by simpa using h⟩
      ·obtain⟨j,h1,h2⟩:=ih (k+1) h
       exact⟨j+1,by omega,by simpa using h2⟩
    obtain⟨j,h1,h2⟩:=key args 0 hx
    rw[Nat.zero_add] at h1
    subst h1
    have hlt:=lt_of_get h2
    have hval:(vs++Array.replicate (fn.ntmps-vs.size) undef).getD t undef=vs.getD t undef:=by
     simp only[Array.getD_eq_getD_getElem?]
     rw[Array.getElem?_append_left (by omega)]
    rw[hval]
    exact hv t x h2
   ·intro b p hp
    obtain⟨⟨x,h1⟩,h2,_⟩:=hm b p hp
    exact⟨.inl (hblk b x h1).1,.inr ⟨b,x,p.2,h1,hp⟩,h2⟩
   ·exact fun b x hx => .inl (hblk b x hx).1
  refine wp_mono (h _ _ _ _ _ _ w ⟨m,hR⟩) ?_
  rintro e a' w' ⟨st',hq,m',hM⟩
  have fin:RetOkE P fn.results res N' H' st'→a'.defers=[]∧∃v,(results fn a'.tmps).run P w' = .ok v w'∧∃v' m',(Ending.returned v) = .returned v'∧BelowE (OwnP H m) w.heap.size w w' ∧
   (∀b p,m' b=some p→b < N'∧(w.heap.size≤p.1∨OwnP H m p.1)∧p.1 < w'.heap.size)∧(∀i,i < r→m' i=m i) ∧
   (∀b b' x y g s s',hlook b H'=some x→hlook b' H'=some y→m' b=some (g,s)→m' b'=some (g,s')→b=b') ∧
   (∀b x,hlook b H'=some x→b < N'∧BlkR w' (fun g=>A g∨OwnP H' m' g) m' b x)∧VR w' (fun g=>A g∨OwnP H' m' g) m' res v':=by
   intro hret
   obtain⟨xs,h1,h2⟩:=hret.out
   obtain⟨v,hv1,hv2⟩:=results_run hM h1
   have h3:=hret.heap
   have h4:=hret.nx
   have h5:=hret.al
   subst h2 h3 h4
   refine⟨hM.defs,v,hv1,v,m',rfl,hM.below,?_,?_,hM.inj,?_,hv2⟩
   ·intro b p hp
    have:=hM.dom b p hp
    rw[h5] at this
    simpa using this
   ·intro i hi
    exact(hM.pin i hi).1
   ·intro b x hx
    have:=hM.hnx b x hx
    rw[h5] at this
    exact⟨by simpa using this,hM.hp b x hx⟩
  cases e with
  | normal=>exact fin hq
  | ret=>exact fin hq
  | _=>exact hq.elim


/-! ### Ranges over maps: in whatever order -/
section
variable {V O:Type}
def mrun (step:Int×Int→V→Option (Ex V O)) (fin:V→Option O):List (Int×Int)→V→Option O
 | [],v=>fin v
 | p::r,v=>Option.bind (step p v) fun x=>match x with
  | .go v'=>mrun step fin r v'
  | .rt o=>some o
def MP (step:Int×Int→V→Option (Ex V O)) (fin:V→Option O) (r:List (Int×Int)) (v:V) (o:O):Prop:=∀ σ:List (Int×Int),σ.Perm r→mrun step fin σ v=some o
theorem MP.nil {step:Int×Int→V→Option (Ex V O)} {fin:V→Option O} {v:V} {o:O} (h:MP step fin [] v o):fin v=some o:=h [] (.refl _)
theorem MP.step {step:Int×Int→V→Option (Ex V O)} {fin:V→Option O} {r1 r2:List (Int×Int)} {p:Int×Int} {v:V} {o:O} (h:MP step fin (r1++p::r2) v o) :
  ∃q,step p v=some q∧(∀v',q = .go v'→MP step fin (r1++r2) v' o)∧∀o',q = .rt o'→o'=o:=by
 have h1:∀ σ:List (Int×Int),σ.Perm (r1++r2)→mrun step fin (p :: σ) v=some o:=fun σ hσ=>h (p :: σ) ((hσ.cons p).trans List.perm_middle.symm)
 have h2:=h1 (r1++r2) (.refl _)
 rw[mrun] at h2
 obtain⟨q,h3,h4⟩:=Option.bind_eq_some_iff.1 h2
 refine⟨q,h3,fun v' hq σ hσ=>?_,fun o' hq=>?_⟩
 ·have:=h1 σ hσ
  rw[mrun,h3,hq] at this
  exact this
 ·subst hq
  exact Option.some.inj h4
end

theorem RunT.next {P:Program} {cx:Cx} {ops:Array Oper} {i:Nat} {l:List Nat} {env:Env} {heap:Hp} {nx t b:Nat} {K:St→Prop} {o:Oper} {x:Operand} {ml r:List (Int×Int)} {e:Option (Int×Int)} (ho:ops[i]?=some o) (hg:o.guard=none) (hop:o.op = .next x false) (hd:o.dst=some t) (hb:Nat.blt t cx.n=true)
  (hx:ev env x = .ptr b 0) (hbk:hlook b heap=some (.iter ml r e)) (h0:r=[]→RunT P cx ops l ⟨(t,.tup [.v (.bool false)])::env,heap,nx,[]⟩ K)
  (h1:∀r1 p r2,r=r1++p::r2→RunT P cx ops l ⟨(t,.tup [.v (.bool true),.v (.int .i64 p.1),.v (.int .i64 p.2)])::env,(b,some (.iter ml (r1++r2) (some p)))::heap,nx,[]⟩ K):RunT P cx ops (i::l) ⟨env,heap,nx,[]⟩ K:=by
 rintro a w ⟨m,hM⟩
 have hw:=(show GuardIs ops (ev env) o true by unfold GuardIs;rw[hg]).wanted hM.ev
 simp only[wpOps,ho,hw,if_true]
 refine .inl ?_
 have hE:EvR cx m ⟨env,heap,nx,[]⟩ a w (ev env):=hM.ev
 have hv:=hE.ev1 hx (by simp) (by simp) (by simp)
 generalize hq:a.eval x=q at hv
 cases hv with
 | ptr hm =>
  rename_i g s
  obtain⟨g',s',gm,seen,k1,k2,k3,k4,k5⟩:=hM.hp b _ hbk
  rw[hm] at k1
  cases k1
  have hdn:∀t',o.dst=some t'→t' < cx.n:=by
   intro t' ht'
   rw[hd] at ht'
   cases ht'
   exact Nat.le_of_ble_eq_true hb
  have k4':=k4
  unfold mobj at k4'
  rcases run_next_at (P:=P) w o.type g gm ml.length ml.length seen (mes ml 0).toArray ml.length k2 k4' (fun y hy=>by
    have:=mes_born ml 0 y (by simpa using hy)
    omega) (Nat.le_refl _) with⟨j1,j2⟩ | ⟨y,j1,w1,j2,j3⟩
  ·have hrun:(execOp a.eval o).run P w = .ok (.value (.tuple #[.bool false])) w:=by
    simp only[execOp,hop,hq]
    rw[Sem.run_bind,j2]
    rfl
   unfold Oper.wp
   rw[hrun]
   have hput:=hM.put (d:=o.dst) (x := .tup [.v (.bool false)]) (v := .tuple #[.bool false]) hdn (fun _ => .tup rfl fun j z hz=>by
    match j,hz with
    | 0,hz=>cases hz;exact .one (.v rfl))
   rw[hd] at hput
   exact h0 (k5.nil j1) _ _ ⟨m,by rw[hd];exact hput⟩
  ·obtain⟨r1,p,r2,z1,z2,z3⟩:=k5.step j1
   have hk:y.key = .int .i64 p.1:=congrArg Prod.fst z2
   have hval:y.val = .int .i64 p.2:=congrArg Prod.snd z2
   rw[hk,hval] at j3
   have hrun:(execOp a.eval o).run P w = .ok (.value (.tuple #[.bool true,.int .i64 p.1,.int .i64 p.2])) (updRow w1 g (.mapIter (some gm) ml.length (seen.push y.born) ml.length)):=by
    simp only[execOp,hop,hq]
    rw[Sem.run_bind,j3]
    rfl
   unfold Oper.wp
   rw[hrun]
   have hM1:RelM cx m ⟨env,heap,nx,[]⟩ a w1:=by
    rcases j2 with rfl | rfl
    ·exact hM
    ·exact hM.drew
   have hh:w1.heap=w.heap:=by rcases j2 with rfl | rfl <;> rfl
   have hup:=hM1.updI (r':=r1++r2) (e':=some p) (sn':=seen.push y.born) (o := .mapIter none 0 #[] 0) hbk hm (by rw[hh];exact k2) k3 (by rw[hh];exact k4) z3
   have hput:=hup.put (d:=o.dst) (x := .tup [.v (.bool true),.v (.int .i64 p.1),.v (.int .i64 p.2)]) (v := .tuple #[.bool true,.int .i64 p.1,.int .i64 p.2]) hdn (fun _ => .tup rfl fun j z hz=>by
    match j,hz with
    | 0,hz=>cases hz;exact .one (.v rfl)
    | 1,hz=>cases hz;exact .one (.v rfl)
    | 2,hz=>cases hz;exact .one (.v rfl))
   rw[hd] at hput
   exact h1 r1 p r2 z1 _ _ ⟨m,by rw[hd];exact hput⟩
end Go.Sh
