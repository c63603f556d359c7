/- The commonest steps, each with its closed facts in one. -/
import Derived.Test.YtlfpkjlaajfjnaaShS
set_option linter.unusedVariables false
namespace Go.Sh
open Go.RowKit
universe u
theorem Z {α:Sort u} {a : α} : a=a:=rfl
theorem W:True:=trivial
abbrev iv (x:Int):SV := .v (.int .i64 x)
abbrev bv (x:Bool):SV := .v (.bool x)
abbrev lm {α:Type} (f : α→SV) (l:List α):SV := .lst (l.map f)
abbrev am {α:Type} (f : α→SV) (l:List α):Blk := .arr false 1 (l.map f)
def oF (ops:Array Oper) (i n:Nat):Option (Op×Nat):=match ops[i]? with
 | none=>none
 | some o=>match o.guard,o.dst with
  | none,some t=>bif Nat.blt t n then some (o.op,t) else none
  | _,_=>none
def mF (ops:Array Oper) (i n:Nat) (E:Operand→SV):Option (SV×Nat):=match oF ops i n with
 | some (.move a,t)=>some (E a,t)
 | some (.assign a,t)=>some (E a,t)
 | _=>none
def gF (ops:Array Oper) (i n:Nat):Option (Op×Nat×Nat×Bool):=match ops[i]? with
 | none=>none
 | some o=>match o.guard,o.dst with
  | some (j,b),some t=>match (ops[j]?).bind (·.dst) with
   | some t'=>bif Nat.blt t n then some (o.op,t,t',b) else none
   | none=>none
  | _,_=>none
theorem oF_of {ops:Array Oper} {i n t:Nat} {p:Op} (h:oF ops i n=some (p,t)):∃o,ops[i]?=some o∧o.guard=none∧o.dst=some t∧Nat.blt t n=true∧o.op=p:=by
 unfold oF at h
 split at h
 ·cases h
 ·rename_i o ho
  split at h
  ·rename_i t' hg hd
   cases hb:Nat.blt t' n
   ·rw[hb] at h;cases h
   ·rw[hb] at h;cases h;exact⟨o,ho,hg,hd,hb,rfl⟩
  ·cases h
theorem mF_of {ops:Array Oper} {i n t:Nat} {E:Operand→SV} {x:SV} (h:mF ops i n E=some (x,t)):∃o,ops[i]?=some o∧o.guard=none∧o.dst=some t∧Nat.blt t n=true∧∀P hp id,Op1 P E hp id o.op x []:=by
 unfold mF at h
 split at h
 ·rename_i a t' ho
  cases h
  obtain⟨o,h1,h2,h3,h4,h5⟩:=oF_of ho
  exact⟨o,h1,h2,h3,h4,fun P hp id=>by rw[h5];exact .move⟩
 ·rename_i a t' ho
  cases h
  obtain⟨o,h1,h2,h3,h4,h5⟩:=oF_of ho
  exact⟨o,h1,h2,h3,h4,fun P hp id=>by rw[h5];exact .assign⟩
 ·cases h
theorem gF_of {ops:Array Oper} {i n t t':Nat} {p:Op} {b:Bool} (h:gF ops i n=some (p,t,t',b)):∃o j,ops[i]?=some o∧o.guard=some (j,b)∧(ops[j]?).bind (·.dst)=some t'∧o.dst=some t∧Nat.blt t n=true∧o.op=p:=by
 unfold gF at h
 split at h
 ·cases h
 ·rename_i o ho
  split at h
  ·rename_i j b' t1 hg hd
   split at h
   ·rename_i t2 hj
    cases hb:Nat.blt t1 n
    ·rw[hb] at h;cases h
    ·rw[hb] at h;cases h;exact⟨o,j,ho,hg,hj,hd,hb,rfl⟩
   ·cases h
  ·cases h
section
variable {P:Program} {cx:Cx} {ops:Array Oper} {i:Nat} {l:List Nat} {env:Env} {heap:Hp} {nx t t':Nat} {K:St→Prop} {p:Op} {b:Bool}
theorem tO (x:SV) (h:oF ops i cx.n=some (p,t)) (h1:Op1 P (ev env) (fun b=>hlook b heap) nx p x []) (hn:RunT P cx ops l ⟨(t,x)::env,heap,nx,[]⟩ K):RunT P cx ops (i::l) ⟨env,heap,nx,[]⟩ K:=by
 obtain⟨o,a,b,c,d,e⟩:=oF_of h
 exact RunT.ot0 a b c d (by rw[e];exact h1) hn
theorem tM (x:SV) (h:mF ops i cx.n (ev env)=some (x,t)) (hn:RunT P cx ops l ⟨(t,x)::env,heap,nx,[]⟩ K):RunT P cx ops (i::l) ⟨env,heap,nx,[]⟩ K:=by
 obtain⟨o,a,b,c,d,e⟩:=mF_of h
 exact RunT.ot0 a b c d (e _ _ _) hn
theorem tG (x:SV) (h:gF ops i cx.n=some (p,t,t',b)) (hv:ev env (.tmp t') = .v (.bool b)) (h1:Op1 P (ev env) (fun b=>hlook b heap) nx p x []) (hn:RunT P cx ops l ⟨(t,x)::env,heap,nx,[]⟩ K):RunT P cx ops (i::l) ⟨env,heap,nx,[]⟩ K:=by
 obtain⟨o,j,a,b,c,d,e,f⟩:=gF_of h
 exact RunT.gt0 a b c hv d e (by rw[f];exact h1) hn
theorem tX (h:gF ops i cx.n=some (p,t,t',b)) (hv:ev env (.tmp t') = .v (.bool !b)) (hn:RunT P cx ops l ⟨(t,.tup [])::env,heap,nx,[]⟩ K):RunT P cx ops (i::l) ⟨env,heap,nx,[]⟩ K:=by
 obtain⟨o,j,a,b,c,d,e,f⟩:=gF_of h
 exact RunT.xn a b c hv d e hn
theorem tU (h:gF ops i cx.n=some (p,t,t',b)) (hv:ev env (.tmp t') = .tup []) (hn:RunT P cx ops l ⟨(t,.tup [])::env,heap,nx,[]⟩ K):RunT P cx ops (i::l) ⟨env,heap,nx,[]⟩ K:=by
 obtain⟨o,j,a,b,c,d,e,f⟩:=gF_of h
 exact RunT.xu a b c hv d e hn
theorem tS {c:Code} {Q:Exit→St→Prop} {st:St} (ts bs:List Nat) (st':St) (h:(st'.env,st'.heap,st'.nx,st'.al,st.al)=(pickE ts st.env,pickH bs st.heap,st.nx,[],[])) (hn:T P cx c Q st'):T P cx c Q st:=by
 simp only[Prod.mk.injEq] at h
 exact T.sub (sub_pick ts bs h.1 h.2.1 h.2.2.1 h.2.2.2.1 h.2.2.2.2) hn
end
section
variable {P:Program} {cx:Cx} {ops:Array Oper} {M:Msk} {n0:Nat} {A:List Nat} {l:List Nat} {acc:List It} {i:Nat} {env:Env} {heap:Hp} {nx t t':Nat} {al:List Nat} {K:St→Prop} {p:Op} {b:Bool}
theorem dO (x:SV) (h:oF ops i cx.n=some (p,t)) (h1:Op1 P (evK (M.sw i) env) (hpM M i ⟨env,heap,nx,al⟩) (idAt n0 i) p x []) (hf:freshB ⟨env,heap,nx,al⟩ (idAt n0 i)=true) (hn:RunD P cx ops M n0 A l (acc++[⟨i,x,[]⟩]) ⟨(t,x)::env,heap,nx,al⟩ K):RunD P cx ops M n0 A (i::l) acc ⟨env,heap,nx,al⟩ K:=by
 obtain⟨o,a,b,c,d,e⟩:=oF_of h
 exact RunD.ot0 a b c d (by rw[e];exact h1) hf hn
theorem dM (x:SV) (h:mF ops i cx.n (evK (M.sw i) env)=some (x,t)) (hf:freshB ⟨env,heap,nx,al⟩ (idAt n0 i)=true) (hn:RunD P cx ops M n0 A l (acc++[⟨i,x,[]⟩]) ⟨(t,x)::env,heap,nx,al⟩ K):RunD P cx ops M n0 A (i::l) acc ⟨env,heap,nx,al⟩ K:=by
 obtain⟨o,a,b,c,d,e⟩:=mF_of h
 exact RunD.ot0 a b c d (e _ _ _) hf hn
theorem dG (x:SV) (h:gF ops i cx.n=some (p,t,t',b)) (hv:evK (M.sw i) env (.tmp t') = .v (.bool b)) (h1:Op1 P (evK (M.sw i) env) (hpM M i ⟨env,heap,nx,al⟩) (idAt n0 i) p x []) (hf:freshB ⟨env,heap,nx,al⟩ (idAt n0 i)=true) (hn:RunD P cx ops M n0 A l (acc++[⟨i,x,[]⟩]) ⟨(t,x)::env,heap,nx,al⟩ K):RunD P cx ops M n0 A (i::l) acc ⟨env,heap,nx,al⟩ K:=by
 obtain⟨o,j,a,b,c,d,e,f⟩:=gF_of h
 exact RunD.gt0 a b c hv d e (by rw[f];exact h1) hf hn
theorem dX (h:gF ops i cx.n=some (p,t,t',b)) (hv:evK (M.sw i) env (.tmp t') = .v (.bool !b)) (hn:RunD P cx ops M n0 A l (acc++[⟨i,.tup [],[]⟩]) ⟨(t,.tup [])::env,heap,nx,al⟩ K):RunD P cx ops M n0 A (i::l) acc ⟨env,heap,nx,al⟩ K:=by
 obtain⟨o,j,a,b,c,d,e,f⟩:=gF_of h
 exact RunD.xn a b c hv d e hn
theorem dU (h:gF ops i cx.n=some (p,t,t',b)) (hv:evK (M.sw i) env (.tmp t') = .tup []) (hn:RunD P cx ops M n0 A l (acc++[⟨i,.tup [],[]⟩]) ⟨(t,.tup [])::env,heap,nx,al⟩ K):RunD P cx ops M n0 A (i::l) acc ⟨env,heap,nx,al⟩ K:=by
 obtain⟨o,j,a,b,c,d,e,f⟩:=gF_of h
 exact RunD.xu a b c hv d e hn
end
section
variable {hp:Hp} {ρ:List (Option Nat)} {e r:Env} {t:Tmp}
theorem eV {u:Value} (h:look t e=some (.v u)) (hr:EnvC hp ρ e r):EnvC hp ρ e ((t,.v u)::r):=⟨⟨_,h,.one .v⟩,hr⟩
theorem eL {xs:List SV} (h:look t e=some (.lst xs)) (hr:EnvC hp ρ e r):EnvC hp ρ e ((t,.lst xs)::r):=⟨⟨_,h,.one .lst⟩,hr⟩
theorem eP {b b' off:Nat} (h:look t e=some (.ptr b off)) (hb : ρ[b']?=some (some b)) (hr:EnvC hp ρ e r):EnvC hp ρ e ((t,.ptr b' off)::r):=⟨⟨_,h,.one (.ptr hb)⟩,hr⟩
theorem eO {b b' off len:Nat} (h:look t e=some (.own b off len)) (hb : ρ[b']?=some (some b)) (hr:EnvC hp ρ e r):EnvC hp ρ e ((t,.own b' off len)::r):=⟨⟨_,h,.one (.own hb)⟩,hr⟩
theorem hB {b c N:Nat} {X Y:Blk} {q:Hp} (h1:Nat.blt b N=true) (h2 : ρ[b]?=some (some c)) (h3:hlook c hp=some Y) (h4:CvB hp ρ Y X) (hr:HpC hp ρ N q):HpC hp ρ N ((b,some X)::q):=⟨⟨h1,.inl ⟨_,_,h2,h3,h4⟩⟩,hr⟩
end
section
variable {P:Program} {cx:Cx} {Q:Exit→St→Prop} {st:St}
theorem tK (h:Q .normal st):T P cx .skip Q st:=T.skip h
theorem tQ {x y:Code} (h:T P cx x (Th (fun st'=>T P cx y Q st') Q) st):T P cx (.seq x y) Q st:=T.seq h
theorem tb {id:Nat} {c:Code} (h:T P cx c (Ib id Q) st):T P cx (.block id c) Q st:=T.block h
theorem tR {id:Nat} {ops:Array Oper} (h:RunT P cx ops (List.range ops.size) st (Q .normal)):T P cx (.region id ops false) Q st:=T.region h
theorem tN {ops:Array Oper} {K:St→Prop} (h:K st):RunT P cx ops [] st K:=RunT.nil h
end
def cd:Nat→Option Nat
 | 0=>none
 | n+1=>some n
def rh:List Nat→List (Option Nat)
 | []=>[]
 | n::l=>cd n::rh l
def pwB:List (Option Nat)→Bool
 | []=>true
 | none::l=>pwB l
 | some a::l=>(l.all fun b=>match b with | some c => !(Nat.beq a c) | none=>true) && pwB l
theorem pwB_of:∀ {l:List (Option Nat)},pwB l=true→l.Pairwise (fun a b=>a=none∨a ≠ b)
 | [],_=>List.Pairwise.nil
 | none::l,h=>List.pairwise_cons.2 ⟨fun _ _ => .inl rfl,pwB_of (l:=l) h⟩
 | some a::l,h=>by
  rw[pwB,Bool.and_eq_true] at h
  refine List.pairwise_cons.2 ⟨fun b hb => .inr fun e=>?_,pwB_of h.2⟩
  have:=List.all_eq_true.1 h.1 b hb
  rw[← e] at this
  simp at this
def okR (r:Nat) (ρ:List (Option Nat)) (n:Nat):Bool:=pinB r ρ && (pwB ρ && Nat.ble ρ.length n)
theorem okR_of {r n:Nat} {ρ:List (Option Nat)} (h:okR r ρ n=true):pinB r ρ=true∧pwB ρ=true∧Nat.ble ρ.length n=true:=by
 rw[okR,Bool.and_eq_true,Bool.and_eq_true] at h
 exact h
theorem sb {cx:Cx} {st st':St} (l:List Nat) (h:okR cx.r (rh l) st'.nx=true) (hal:st'.al=[]) (henv:EnvC st.heap (rh l) st.env st'.env) (hhp:HpC st.heap (rh l) st'.nx st'.heap):Sub cx st st' :=
 sub_to (rh l) (okR_of h).1 (pwB_of (okR_of h).2.1) (okR_of h).2.2 hal henv hhp
theorem sV {P:Program} {cx:Cx} {c:Code} {Q:Exit→St→Prop} {st:St} (st':St) (l:List Nat) (h:okR cx.r (rh l) st'.nx=true) (hal:st'.al=[]) (henv:EnvC st.heap (rh l) st.env st'.env) (hhp:HpC st.heap (rh l) st'.nx st'.heap) (hn:T P cx c Q st'):T P cx c Q st:=T.sub (sb l h hal henv hhp) hn
theorem tC {P:Program} {cx:Cx} {c:Operand} {x y:Code} {t:Bool} {Q:Exit→St→Prop} {st:St} {α:Type} {A B:Option α} {o : α} (H:cond t A B=some o) (hc:ev st.env c = .v (.bool t)) (h1:A=some o→T P cx x Q st) (h2:B=some o→T P cx y Q st):T P cx (.cond c x y) Q st :=
 T.cond2 hc (fun e=>h1 (ct H e)) (fun e=>h2 (cf H e))
def nF (ops:Array Oper) (i:Nat):Option Op:=match ops[i]? with
 | none=>none
 | some o=>match o.guard,o.dst with
  | none,none=>some o.op
  | _,_=>none
theorem nF_of {ops:Array Oper} {i:Nat} {p:Op} (h:nF ops i=some p):∃o,ops[i]?=some o∧o.guard=none∧o.dst=none∧o.op=p:=by
 unfold nF at h
 split at h
 ·cases h
 ·rename_i o ho
  split at h
  ·rename_i hg hd
   cases h
   exact⟨o,ho,hg,hd,rfl⟩
  ·cases h
section
variable {P:Program} {cx:Cx} {ops:Array Oper} {i:Nat} {l:List Nat} {env:Env} {heap:Hp} {nx t:Nat} {K:St→Prop} {p:Op}
theorem u1 (x:SV) (p0:Nat×Option Blk) (n':Nat) (h:oF ops i cx.n=some (p,t)) (h1:Op1 P (ev env) (fun b=>hlook b heap) nx p x [p0]) (hx:nx+8=n') (hn:RunT P cx ops l ⟨(t,x)::env,p0::heap,n',[]⟩ K):RunT P cx ops (i::l) ⟨env,heap,nx,[]⟩ K:=by
 obtain⟨o,a,b,c,d,e⟩:=oF_of h
 exact RunT.ot1 a b c d (by rw[e];exact h1) hx hn
theorem u2 (x:SV) (p0 p1:Nat×Option Blk) (n':Nat) (h:oF ops i cx.n=some (p,t)) (h1:Op1 P (ev env) (fun b=>hlook b heap) nx p x [p0,p1]) (hx:nx+8=n') (hn:RunT P cx ops l ⟨(t,x)::env,p0::p1::heap,n',[]⟩ K):RunT P cx ops (i::l) ⟨env,heap,nx,[]⟩ K:=by
 obtain⟨o,a,b,c,d,e⟩:=oF_of h
 exact RunT.ot2 a b c d (by rw[e];exact h1) hx hn
theorem uN (p0:Nat×Option Blk) (n':Nat) (h:nF ops i=some p) (h1:Op1 P (ev env) (fun b=>hlook b heap) nx p .junk [p0]) (hx:nx+8=n') (hn:RunT P cx ops l ⟨env,p0::heap,n',[]⟩ K):RunT P cx ops (i::l) ⟨env,heap,nx,[]⟩ K:=by
 obtain⟨o,a,b,c,d⟩:=nF_of h
 exact RunT.on1 a b c (by rw[d];exact h1) hx hn
theorem uX (cs:List SV) (n':Nat) {tt:TypeId} {xx:Operand} {u:SV} (h:oF ops i cx.n=some (.box tt xx,t)) (hx':ev env xx=u) (hs:u.solid=true) (hd:u.cells=cs) (hx:nx+8=n') (hn:RunT P cx ops l ⟨(t,.ptr nx 0)::env,(nx,some (.box cs))::heap,n',[]⟩ K):RunT P cx ops (i::l) ⟨env,heap,nx,[]⟩ K :=
 u1 _ _ n' h (.boxX hx' hs hd) hx hn
theorem uB {α:Type} {f : α→SV} {sz:Nat} (m:List α) (n':Nat) (h:oF ops i cx.n=some (p,t)) (h1:Op1 P (ev env) (fun b=>hlook b heap) nx p (.own nx 0 m.length) [(nx,some (.arr false sz (m.map f)))]) (hx:nx+8=n') (hn:RunT P cx ops l ⟨(t,.own nx 0 m.length)::env,(nx,some (.arr false sz (m.map f)))::heap,n',[]⟩ K):RunT P cx ops (i::l) ⟨env,heap,nx,[]⟩ K :=
 u1 _ _ n' h h1 hx hn
theorem uA {α:Type} {f : α→SV} {sz:Nat} (m m':List α) (b:Nat) (n':Nat) (h:oF ops i cx.n=some (p,t)) (h1:Op1 P (ev env) (fun b=>hlook b heap) nx p (.own nx 0 (m++m').length) [(nx,some (.arr false sz ((m++m').map f))),(b,none)]) (hx:nx+8=n') (hn:RunT P cx ops l ⟨(t,.own nx 0 (m++m').length)::env,(nx,some (.arr false sz ((m++m').map f)))::(b,none)::heap,n',[]⟩ K):RunT P cx ops (i::l) ⟨env,heap,nx,[]⟩ K :=
 u2 _ _ _ n' h h1 hx hn
end
/- rows that are appended to, one after the other, inside a row of rows -/
abbrev nilV:SV := .v (.slice none 0 0)
theorem Op1.idxOX {P:Program} {E:Operand→SV} {hp:Nat→Option Blk} {id:Nat} {t e:TypeId} {sz:Nat} {x ix:Operand} {b len:Nat} {d:Bool} {xs:List SV} {k:IntKind} {n:Nat} (hS:Sl P t e sz) (hx:E x = .own b 0 len) (hb:hp b=some (.arr d sz xs)) (hi:E ix = .v (.int k (n:Int))) (hl:n < len):Op1 P E hp id (.indexAddr t x ix) (.eptr b n 0) []:=by
 have:=Op1.idxO (P:=P) (ev:=E) (hp:=hp) (id:=id) (off:=0) hS hx hb hi (by omega) (by omega)
 rwa [Int.toNat_natCast,Nat.zero_add] at this
theorem Op1.storeEX {P:Program} {E:Operand→SV} {hp:Nat→Option Blk} {id:Nat} {t:TypeId} {sz:Nat} {agg:Bool} {x y:Operand} {b i off s:Nat} {xs ds:List SV} {u z:SV} (hT:Ty P t sz agg) (hx:E x = .eptr b i off) (hy:E y=z) (hs:z.solid=true) (hl:z.cells.length=sz) (hb:hp b=some (.arr true s xs)) (hi:xs[i]?=some u) (ho:Nat.ble (off+sz) u.cells.length=true) (hd:xs.set i (reC u (splL u.cells off z.cells))=ds):Op1 P E hp id (.store t x y) .junk [(b,some (.arr true s ds))] :=
 hd ▸ .storeE hT hx (.inl hy) hs hl hb hi (Nat.le_of_ble_eq_true ho) (fun h=>by cases h)
theorem Op1.mkNil {P:Program} {E:Operand→SV} {hp:Nat→Option Blk} {id:Nat} {t e:TypeId} {x y:Operand} {n:Nat} (hS:Sl P t e 1) (hx:E x = .v (.int .i64 (n:Int))) (hy:E y = .v (.int .i64 (n:Int))) (hz:(P.info? e).bind (fun i=>i.zero)=some (.slice none 0 0)) (hn:decide (n≤4294967296)=true):Op1 P E hp id (.makeSlice t x y) (.own id 0 n) [(id,some (.arr true 1 (List.replicate n nilV)))] :=
 .mkslice hS hx hy rfl rfl hz (fun _ _ _ => .one (.v rfl)) rfl rfl (of_decide_eq_true hn)
section
variable {α:Type} {f : α→SV} {hp:Hp} {ρ:List (Option Nat)} {l:List α} {N m:Nat} {x y:SV} {c : α}
theorem AllR.app {R:SV→SV→Prop} : ∀ {a b c d:List SV},AllR R a b→AllR R c d→AllR R (a++c) (b++d)
 | [],[],_,_,_,h=>h
 | _::_,_::_,_,_,h,h2=>⟨h.1,AllR.app h.2 h2⟩
 | [],_::_,_,_,h,_=>h.elim
 | _::_,[],_,_,h,_=>h.elim
theorem AllR.rep {R:SV→SV→Prop} {u:SV} (h:R u u):∀n:Nat,AllR R (List.replicate n u) (List.replicate n u)
 | 0=>trivial
 | n+1=>⟨h,AllR.rep h n⟩
theorem AllR.mapf {R:SV→SV→Prop} (h:∀a,R (f a) (f a)):∀l:List α,AllR R (l.map f) (l.map f)
 | []=>trivial
 | a::l=>⟨h a,AllR.mapf h l⟩
theorem rowsKeep (hf:∀a,Cv hp ρ (f a) (f a)) (hxy:Cv hp ρ x y):AllR (Cv hp ρ) (l.map f++x::List.replicate m nilV) (l.map f++y::List.replicate m nilV):=(AllR.mapf hf l).app ⟨hxy,AllR.rep .v m⟩
theorem rowsAll (hf:∀a,Cv hp ρ (f a) (f a)):AllR (Cv hp ρ) (l.map f++List.replicate m nilV) (l.map f++List.replicate m nilV):=(AllR.mapf hf l).app (AllR.rep .v m)
theorem rowsStart (hf:∀a,Cv hp ρ (f a) (f a)) (b:Nat) (h:l.length < N):AllR (Cv hp ρ) (l.map f++List.replicate (N-l.length) nilV) (l.map f ++ .own b 0 0::List.replicate (N-(l.length+1)) nilV):=by
 rw[show N-l.length=(N-(l.length+1))+1 by omega,List.replicate_succ]
 exact rowsKeep hf .nilO
theorem rowsEnd (hf:∀a,Cv hp ρ (f a) (f a)) (hx:Cv hp ρ x (f c)):AllR (Cv hp ρ) (l.map f++x::List.replicate (N-(l.length+1)) nilV) ((l++[c]).map f++List.replicate (N-(l++[c]).length) nilV):=by
 rw[List.map_append,List.append_assoc,List.length_append]
 exact rowsKeep hf hx
theorem rowsFin (hf:∀a,Cv hp ρ (f a) (f a)) (h:N=l.length):AllR (Cv hp ρ) (l.map f++List.replicate (N-l.length) nilV) (l.map f):=by
 rw[h,Nat.sub_self,List.replicate_zero,List.append_nil]
 exact AllR.mapf hf l
theorem rowsRo (h:∀a,ro1 (f a)=true):(l.map f).all ro1=true:=by
 refine List.all_eq_true.2 fun x hx=>?_
 obtain⟨a,_,rfl⟩:=List.mem_map.1 hx
 exact h a
theorem rowsWr (h:l.length < N) (hN:N≤4294967296):wr ((l.length:Int)+1)=(((l++[c]).length:Nat):Int):=by
 rw[List.length_append,List.length_singleton]
 exact w64 (by omega) (by omega)
theorem rowsLe (h:l.length < N):(l++[c]).length≤N:=by
 rw[List.length_append,List.length_singleton]
 exact h
theorem rowsGet {r:List SV} : (l.map f++x::r)[l.length]?=some x:=by
 rw[List.getElem?_append_right (by rw[List.length_map];exact Nat.le_refl _),List.length_map,Nat.sub_self]
 rfl
theorem rowsSet {r:List SV} : (l.map f++x::r).set l.length y=l.map f++y::r:=by
 rw[List.set_append_right _ _ (by rw[List.length_map];exact Nat.le_refl _),List.length_map,Nat.sub_self]
 rfl
end
end Go.Sh
