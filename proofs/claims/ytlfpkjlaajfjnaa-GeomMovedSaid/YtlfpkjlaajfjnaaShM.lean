/- More for printed walks: parts of lists, results without addresses, function values. -/
import Derived.Test.YtlfpkjlaajfjnaaShL
set_option linter.unusedVariables false
set_option linter.unusedSimpArgs false
namespace Go.Sh
open Go.RowKit

section
variable {P:Program} {E:Operand→SV} {hp:Nat→Option Blk} {id:Nat} {t e:TypeId} {sz:Nat} {x:Operand} {b:Nat} {d:Bool}
end

def AllP (F:SV→Prop):List SV→Prop
 | []=>True
 | x::xs=>F x∧AllP F xs
theorem AllP.mem {F:SV→Prop} : ∀ {xs:List SV},AllP F xs→∀y,y ∈ xs→F y
 | [],_,y,hy=>by cases hy
 | x::xs,h,y,hy=>by
  rcases List.mem_cons.1 hy with rfl | hy
  ·exact h.1
  ·exact h.2.mem y hy
theorem flatC_agg {xs:List SV} (h:AllP Flat1 xs):FlatC (.agg xs):=h.mem
theorem flat1_frs {α:Type} {sz:Nat} {f : α→SV} {l:List α} (h:∀a,∀y,y ∈ (f a).cells→flat1 y=true):Flat1 (.frs sz (l.map f)):=by
 intro x hx
 obtain⟨a,_,rfl⟩:=List.mem_map.1 hx
 exact h a
theorem fl_of {α:Type} {f : α→SV} (h:∀a,(f a).cells.all flat1=true):∀a,∀y,y ∈ (f a).cells→flat1 y=true:=fun a y hy=>List.all_eq_true.1 (h a) y hy

/-! ### Function values -/
section
variable {P:Program} {E:Operand→SV} {hp:Nat→Option Blk} {id:Nat} {al:Bool} {x:Operand} {args:Array Operand} {ts:Array TypeId} {f:FuncId} {cs ys cs' zs:List SV} {res X:SV} {U:Hp}
theorem Op1.callc (h:PC P al f (ys++cs') res) (hx:E x = .clo f cs) (hc:AllR (ArgOk hp al) cs cs') (ha:AllR (ArgOk hp al) (args.toList.map E) ys) (h8:Nat.ble (impT 0 res).2.length 8=true) (hX:(impT id res).1=X) (hU:newsOf id (impT 0 res).2=U) :
  Op1 P E hp id (.call ⟨.value x,args,ts⟩) X U:=hX▸hU ▸ .call hx hc ha h (Nat.le_of_ble_eq_true h8)
theorem Op1.callp (h:PC P al f ys res) (hx:E x = .clo f []) (ha:AllR (ArgOk hp al) (args.toList.map E) ys) (h8:Nat.ble (impT 0 res).2.length 8=true) (hX:(impT id res).1=X) (hU:newsOf id (impT 0 res).2=U) :
  Op1 P E hp id (.call ⟨.value x,args,ts⟩) X U := .callc (cs':=[]) (by rw[List.append_nil];exact h) hx trivial ha h8 hX hU
end
section
variable {P:Program} {E:Operand→SV} {hp:Nat→Option Blk} {id:Nat} {x y ix:Operand} {cs ds:List SV} {z u:SV}
theorem Op1.fieldPX {s:TypeId} {f k b off off':Nat} (hF:Fld P s f k) (hx:E x = .ptr b off) (hd:off+k=off'):Op1 P E hp id (.fieldAddr s x f) (.ptr b off') []:=hd ▸ .fieldP hF hx
theorem Op1.fieldEX {s:TypeId} {f k b i off off':Nat} (hF:Fld P s f k) (hx:E x = .eptr b i off) (hd:off+k=off'):Op1 P E hp id (.fieldAddr s x f) (.eptr b i off') []:=hd ▸ .fieldE hF hx
theorem Op1.boxX {t:TypeId} (hx:E x=u) (hs:u.solid=true) (hd:u.cells=cs):Op1 P E hp id (.box t x) (.ptr id 0) [(id,some (.box cs))]:=hd ▸ .box hx hs
theorem Op1.allocX {t:TypeId} {v:Value} (hz:(P.info? t).bind (fun i=>i.zero)=some v) (hs:(ofConst v).solid=true) (hd:(ofConst v).cells=cs):Op1 P E hp id (.alloc t) (.ptr id 0) [(id,some (.box cs))]:=hd ▸ .alloc hz (zeroC rfl) hs
theorem Op1.storePX {t:TypeId} {sz:Nat} {agg:Bool} {b off:Nat} (hT:Ty P t sz agg) (hx:E x = .ptr b off) (hy:E y=u) (hs:u.solid=true) (hl:u.cells.length=sz) (hb:hp b=some (.box cs)) (ho:Nat.ble (off+sz) cs.length=true) (hd:splL cs off u.cells=ds) :
  Op1 P E hp id (.store t x y) .junk [(b,some (.box ds))]:=hd ▸ .storeP hT hx (.inl hy) hs hl hb (Nat.le_of_ble_eq_true ho)
theorem Op1.idxLX {α:Type} {f : α→SV} {l:List α} {t e:TypeId} {sz:Nat} {k:IntKind} {i:Int} {a : α} (h:idx l i=some a) (hf:Enc f sz) (hS:Sl P t e sz) (hx:E x = .lst (l.map f)) (hi:E ix = .v (.int k i)) (hd:(f a).cells=ds):Op1 P E hp id (.indexAddr t x ix) (.rptr ds) []:=hd ▸ .idxLm hS hx hi h hf
end
section
variable {P:Program} {E:Operand→SV} {hp:Nat→Option Blk} {id:Nat} {α:Type} {f : α→SV} {t e tx:TypeId} {sz:Nat} {x y ix:Operand} {ts:Array TypeId} {k:IntKind} {i:Int} {b n:Nat} {d:Bool} {l m:List α} {u:SV}
theorem Op1.idxOn {z : α} (hn:n=l.length) (hS:Sl P t e sz) (hx:E x = .own b 0 n) (hb:hp b=some (.arr d sz (l.map f))) (hi:E ix = .v (.int k i)) (h:idx l i=some z):Op1 P E hp id (.indexAddr t x ix) (.eptr b i.toNat 0) [] :=
 .idxOm hS hx hb hi (ixs h).1 (by rw[hn];exact(ixs h).2.2)
theorem SrcS.ownn {d':Bool} (hk:P.underlying tx=some (.slice e)) (hb:hp b=some (.arr d' sz (m.map f))) (hn:n=m.length) (hd:d'=true→d=true):SrcS P hp sz d tx (.own b 0 n) (m.map f):=by subst hn;exact .ownm hk hb hd
theorem Op1.appOn (hn:n=l.length) (hS:Sl P t e sz) (hx:E x = .own b 0 n) (hb:hp b=some (.arr d sz (l.map f))) (hy:E y=u) (hs:SrcS P hp sz d tx u (m.map f)) (ht:ts = #[t,tx]) (hN:decide (l.length+m.length≤4294967296)=true) :
  Op1 P E hp id (.call ⟨.builtin .append,#[x,y],ts⟩) (.own id 0 (l++m).length) [(id,some (.arr d sz ((l++m).map f))),(b,none)]:=by subst hn;exact .appOm hS hx hb hy hs ht hN
end
theorem Op1.moveX {P:Program} {E:Operand→SV} {hp:Nat→Option Blk} {id:Nat} {x:Operand} {y:SV} (h:E x=y):Op1 P E hp id (.move x) y []:=h ▸ .move
theorem Op1.pickT {P:Program} {E:Operand→SV} {hp:Nat→Option Blk} {id:Nat} {c a b:Operand} {y:SV} (hc:E c = .v (.bool true)) (h:E a=y):Op1 P E hp id (.pick c a b) y []:=h ▸ .pick hc
theorem Op1.pickF {P:Program} {E:Operand→SV} {hp:Nat→Option Blk} {id:Nat} {c a b:Operand} {y:SV} (hc:E c = .v (.bool false)) (h:E b=y):Op1 P E hp id (.pick c a b) y []:=h ▸ .pick hc
theorem Op1.lenON {P:Program} {E:Operand→SV} {hp:Nat→Option Blk} {id:Nat} {t e:TypeId} {x:Operand} {b n m:Nat} {ts:Array TypeId} (hn:n=m) (hS:P.underlying t=some (.slice e)) (hx:E x = .own b 0 n) (ht:ts[0]?=some t):Op1 P E hp id (.call ⟨.builtin .len,#[x],ts⟩) (.v (.int .i64 (m:Int))) []:=by subst hn;exact .lenO hS hx ht
/-! ### A state in short -/
def pickE (ts:List Nat) (e:Env):Env:=match ts with
 | []=>[]
 | t::r=>match look t e with
  | some x=>(t,x)::pickE r e
  | none=>pickE r e
def pickH (bs:List Nat) (h:Hp):Hp:=match bs with
 | []=>[]
 | b::r=>match hlook b h with
  | some x=>(b,some x)::pickH r h
  | none=>pickH r h
theorem look_pick {e:Env} : ∀ {ts:List Nat} {t:Nat} {x:SV},look t (pickE ts e)=some x→look t e=some x
 | [],t,x,h=>by simp [pickE,look] at h
 | s::r,t,x,h=>by
  unfold pickE at h
  split at h
  ·rename_i y hy
   rw[look_cons] at h
   split at h
   ·rename_i hts;subst hts;rw[hy];exact h
   ·exact look_pick h
  ·exact look_pick h
theorem hlook_pick {e:Hp} : ∀ {ts:List Nat} {t:Nat} {x:Blk},hlook t (pickH ts e)=some x→hlook t e=some x
 | [],t,x,h=>by simp [pickH,hlook,look] at h
 | s::r,t,x,h=>by
  unfold pickH at h
  split at h
  ·rename_i y hy
   unfold hlook at h
   rw[look_cons] at h
   by_cases hts:t=s
   ·subst hts;rw[if_pos rfl] at h;rw[hy];exact h
   ·rw[if_neg hts] at h;exact hlook_pick h
  ·exact hlook_pick h
theorem sub_pick {cx:Cx} {st:St} (ts bs:List Nat) {st':St} (he:st'.env=pickE ts st.env) (hh:st'.heap=pickH bs st.heap) (hn:st'.nx=st.nx) (ha:st'.al=[]) (ha0:st.al=[]):Sub cx st st':=by
 rintro a w ⟨m,h⟩
 have hA:∀g,AOf cx st'.heap m g→AOf cx st.heap m g:=by
  rintro g (hg | ⟨b,x,s,hx,hs⟩)
  ·exact .inl hg
  ·rw[hh] at hx;exact .inr ⟨b,x,s,hlook_pick hx,hs⟩
 refine⟨m,h.below,h.basele,h.bsmall,(fun i hi=>⟨(h.pin i hi).1,hn▸(h.pin i hi).2⟩),h.defs,h.size,?_,?_,?_,?_,?_⟩
 ·intro t x hx
  rw[he] at hx
  exact(h.env t x (look_pick hx)).mono (fun _ _ _=>rfl) (fun g hg => .inl (hA g hg)) (fun _ _ h=>h) (fun _ _ h=>h)
 ·intro b p hp
  have:=h.dom b p hp
  rw[ha0] at this
  rw[ha,hn]
  exact this
 ·intro b x hx
  rw[hh] at hx
  have:=h.hnx b x (hlook_pick hx)
  rw[ha0] at this
  rw[ha,hn]
  exact this
 ·intro b b' x y g s s' hx hy hs hs'
  rw[hh] at hx hy
  exact h.inj b b' x y g s s' (hlook_pick hx) (hlook_pick hy) hs hs'
 ·intro b x hx
  rw[hh] at hx
  exact(h.hp b x (hlook_pick hx)).mono rfl (fun _ _ _=>rfl) (fun g hg => .inl (hA g hg)) (fun _ _ h=>h) (fun _ _ h=>h) (fun _ _ _=>rfl)
/-! ### Pointers against nil -/
section
variable {P:Program} {t e:TypeId} {x y:Operand}
end
def optc {α β:Type} (r:Option α) (a:Option β) (f : α→Option β):Option β:=match r with
 | none=>a
 | some x=>f x
attribute [irreducible] optc
/-! ### Arrays in boxes, parts of lists -/
section
variable {P:Program} {E:Operand→SV} {hp:Nat→Option Blk} {id:Nat} {α:Type} {f : α→SV} {t e tx:TypeId} {x y ix:Operand} {k:IntKind} {i:Int} {b n:Nat} {d:Bool} {l m:List α} {u:SV}
end
end Go.Sh
