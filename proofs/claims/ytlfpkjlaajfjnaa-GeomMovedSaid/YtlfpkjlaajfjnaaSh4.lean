/- The shadow's operations, and that the model's do the same. -/
import Derived.Test.YtlfpkjlaajfjnaaSh3
import Derived.Deep.AppendSrc
import Derived.Laws.MakeOwn
set_option linter.unusedVariables false
set_option linter.unusedSimpArgs false
namespace Go.Sh
open Go.RowKit

def ofConst:Value→SV
 | .agg cs=>bif cs.toList.all one then .agg (cs.toList.map .v) else .junk
 | .tuple _ => .junk
 | u => .v u

theorem ofConst_VR (w:World) (A:Nat→Prop) (m:Mp) (c:Value):VR w A m (ofConst c) c:=by
 have h1:∀u:Value,one u=true→VR w A m (.v u) u:=fun u h => .one (.v h)
 cases c with
 | agg cs =>
  cases h:cs.toList.all one with
  | false=>simp only[ofConst,h,cond_false];exact .junk
  | true =>
   simp only[ofConst,h,cond_true]
   refine .agg (by simp) ?_
   intro j y hy
   simp only[List.getElem?_map,Option.map_eq_some_iff] at hy
   obtain⟨u,hu,rfl⟩:=hy
   have hu':cs[j]?=some u:=by simpa using hu
   have:cs.getD j undef=u:=by simp [hu']
   rw[this]
   refine .v ?_
   exact List.all_eq_true.1 h u (List.mem_of_getElem? hu)
 | tuple vs=>exact .junk
 | _=>exact h1 _ rfl

def ev (env:Env):Operand→SV
 | .tmp t=>(look t env).getD .junk
 | .const c=>ofConst c
 | .func f => .clo f []
 | .global _ => .junk

theorem RelM.ev {cx:Cx} {m:Mp} {st:St} {a:Act} {w:World} (h:RelM cx m st a w) (x:Operand):VR w (AOf cx st.heap m) m (ev st.env x) (a.eval x):=by
 cases x with
 | tmp t =>
  cases hl:look t st.env with
  | none=>simp only[Go.Sh.ev,hl];exact .junk
  | some y=>simp only[Go.Sh.ev,hl];exact h.env t y hl
 | const c=>exact ofConst_VR ..
 | func f=>exact .one (.clo rfl (fun j y hy=>by simp at hy))
 | global g=>exact .junk

def EvR (cx:Cx) (m:Mp) (st:St) (a:Act) (w:World) (E:Operand→SV):Prop:=∀x,VR w (AOf cx st.heap m) m (E x) (a.eval x)

theorem EvR.ev1 {cx:Cx} {m:Mp} {st:St} {a:Act} {w:World} {E:Operand→SV} (h:EvR cx m st a w E) {x:Operand} {y:SV} (hy:E x=y) (hj:y ≠ .junk) (ha:∀cs,y ≠ .agg cs) (ht:∀cs,y ≠ .tup cs) :
  OneR w (AOf cx st.heap m) m y (a.eval x):=by
 have:=h x
 rw[hy] at this
 generalize a.eval x=v at this
 cases this with
 | one h=>exact h
 | agg=>exact absurd rfl (ha _)
 | tup=>exact absurd rfl (ht _)
 | junk=>exact absurd rfl hj

theorem EvR.evV {cx:Cx} {m:Mp} {st:St} {a:Act} {w:World} {E:Operand→SV} (h:EvR cx m st a w E) {x:Operand} {u:Value} (hy:E x = .v u):a.eval x=u:=by
 have:=h.ev1 hy (by simp) (by simp) (by simp)
 generalize a.eval x=v at this
 cases this with
 | v=>rfl

def ro1:SV→Bool
 | .v _ | .lst _ | .rptr _ | .mp _ | .clo _ []=>true
 | _=>false
def roC:SV→Bool
 | .agg cs=>cs.all ro1
 | x=>ro1 x

theorem ro1_sound {w:World} {A:Nat→Prop} {m m':Mp} {x:SV} {v:Value} (hx:ro1 x=true) (h:OneR w A m x v):OneR w A m' x v:=by
 cases h with
 | v h=>exact .v h
 | nil=>exact .nil
 | lst C hc hp hl hm hr=>exact .lst C hc hp hl hm hr
 | rptr C hm hr=>exact .rptr C hm hr
 | clo hl h =>
  rename_i f caps vs
  cases caps with
  | nil=>exact .clo hl (fun j y hy=>by simp at hy)
  | cons=>simp [ro1] at hx
 | mp h=>exact .mp h
 | omp=>simp [ro1] at hx
 | bnd=>simp [ro1] at hx
 | own=>simp [ro1] at hx
 | own0=>simp [ro1] at hx
 | ptr=>simp [ro1] at hx
 | eptr=>simp [ro1] at hx
theorem roC_sound {w:World} {A:Nat→Prop} {m m':Mp} {x:SV} {v:Value} (hx:roC x=true) (h:VR w A m x v):VR w A m' x v:=by
 cases h with
 | one h =>
  have:ro1 x=true:=by
   cases h <;> simp_all [roC,ro1]
  exact .one (ro1_sound this h)
 | agg hl h =>
  rename_i cs vs
  exact .agg hl fun j y hy=>ro1_sound (List.all_eq_true.1 hx y (List.mem_of_getElem? hy)) (h j y hy)
 | tup=>simp [roC,ro1] at hx
 | junk=>exact .junk

def RoR1 (x y:SV):Prop:=(x=y∧ro1 x=true)∨(x = .v (.slice none 0 0)∧y = .lst [])
inductive RoR:SV→SV→Prop where
 | same {x:SV} (h:roC x=true):RoR x x
 | nil:RoR (.v (.slice none 0 0)) (.lst [])
 | agg {cs ys:List SV} (h:AllR RoR1 cs ys):RoR (.agg cs) (.agg ys)
theorem RoR1.sound {w:World} {A:Nat→Prop} {m m':Mp} {x y:SV} {v:Value} (hx:RoR1 x y) (h:OneR w A m x v):OneR w A m' y v:=by
 rcases hx with⟨rfl,h1⟩ | ⟨rfl,rfl⟩
 ·exact ro1_sound h1 h
 ·cases h with | v h=>exact .nil
theorem RoR.sound {w:World} {A:Nat→Prop} {m m':Mp} {x y:SV} {v:Value} (hx:RoR x y) (h:VR w A m x v):VR w A m' y v:=by
 cases hx with
 | same h1=>exact roC_sound h1 h
 | nil =>
  cases h with
  | one h=>cases h with | v h=>exact .one .nil
 | @agg cs ys hr =>
  cases h with
  | one h=>cases h
  | agg hl h =>
   refine .agg (by rw[hl,hr.len]) fun j y hy=>?_
   have hlt:j < cs.length:=by
    rw[← hr.len]
    rcases Nat.lt_or_ge j ys.length with h' | h'
    ·exact h'
    ·rw[List.getElem?_eq_none h'] at hy;cases hy
   exact(hr.get j cs[j] y (List.getElem?_eq_getElem hlt) hy).sound (h j cs[j] (List.getElem?_eq_getElem hlt))
def ArgOk (hp:Nat→Option Blk) (al:Bool) (x y:SV):Prop :=
 match al with
 | true=>RoR x y
 | false=>ExtC hp x y

def newsOf (id:Nat):List Blk→Hp
 | []=>[]
 | b::bs=>(id,some b)::newsOf (id+1) bs

structure Fld (P:Program) (s:TypeId) (f k:Nat):Prop where
 get:∃fs fd,P.underlying s=some (.struct fs)∧fs[f]?=some fd∧fd.offset=k∧∃n,(P.info? fd.type).map (·.size)=some (n+1)
structure Sl (P:Program) (t e:TypeId) (sz:Nat):Prop where
 under:P.underlying t=some (.slice e)
 size:(P.info? e).map (·.size)=some sz
 pos:0 < sz
 zero:∃z,(P.info? e).map (fun i=>i.zero)=some (some z)∧z.cells.size=sz
 bytes:∃n,(P.info? e).map (fun i=>i.bytes)=some n∧n≤1024
structure Ar (P:Program) (t:TypeId) (n sz:Nat):Prop where
 under:∃e,P.underlying t=some (.array n e)∧(P.info? e).map (·.size)=some sz

def binS (op:BinOp) (t:TypeId) (x y:Operand) (a b:Value):Sem Value:=do eqGuard op t x y a b;binOp op t a b

def reC (y:SV) (l:List SV):SV :=
 match y with
 | .agg _ => .agg l
 | _=>l.headD .junk

theorem RelM.al_mono {cx:Cx} {m:Mp} {st:St} {a:Act} {w:World} {al':List Nat} (h:RelM cx m st a w) (hal:∀b,b ∈ st.al→b ∈ al'):RelM cx m { st with al:=al' } a w :=
 { h with dom:=fun b p hp=>⟨(h.dom b p hp).1.imp id (hal b),(h.dom b p hp).2⟩,hnx:=fun b x hx=>(h.hnx b x hx).imp id (hal b) }

def St.app (st:St) (d:Option Tmp) (x:SV) (u:Hp):St :=
 { (st.put d x) with heap:=u++st.heap,al:=u.map (·.1)++st.al }

def Does (P:Program) (cx:Cx) (m:Mp) (st:St) (a:Act) (w:World) (ρ:Sem Next) (x:SV) (u:Hp):Prop :=
 ∃v w' m',(ρ.run P w = .ok (.value v) w'∨(v=undef ∧ ρ.run P w = .ok .skip w'))∧RelM cx m' { st with heap:=u++st.heap,al:=u.map (·.1)++st.al } a w'∧VR w' (AOf cx (u++st.heap) m') m' x v

theorem Does.same {P:Program} {cx:Cx} {m:Mp} {st:St} {a:Act} {w:World} {ρ:Sem Next} {x:SV} {v:Value} (h:RelM cx m st a w) (hr : ρ.run P w = .ok (.value v) w) (hv:VR w (AOf cx st.heap m) m x v):Does P cx m st a w ρ x [] :=
 ⟨v,w,m,.inl hr,h,hv⟩

def Goes (P:Program) (cx:Cx) (o:Oper) (st st':St):Prop :=
 ∀a w,Rel cx st a w→o.wp P a w (fun a' w'=>Rel cx st' a' w') (fun _ _ _=>False)

theorem put_heap (st:St) (d:Option Tmp) (x:SV) (h:Hp) (al:List Nat):({ (st.put d x) with heap:=h,al:=al } : St)=({ st with heap:=h,al:=al } : St).put d x:=by
 cases d <;> rfl

theorem Goes.of_does {P:Program} {cx:Cx} {o:Oper} {st:St} {x:SV} {u:Hp} (hd:∀t,o.dst=some t→t < cx.n)
  (h:∀m a w,RelM cx m st a w→Does P cx m st a w (execOp a.eval o) x u):Goes P cx o st (st.app o.dst x u):=by
 rintro a w ⟨m,hR⟩
 obtain⟨v,w',m',hr,h1,h2⟩:=h m a w hR
 have hfin:Rel cx (st.app o.dst x u) (a.put o.dst v) w':=by
  refine⟨m',?_⟩
  unfold St.app
  rw[put_heap]
  exact h1.put hd fun _=>h2
 unfold Oper.wp
 rcases hr with hr | ⟨rfl,hr⟩ <;> rw[hr] <;> exact hfin

section
variable {P:Program} {cx:Cx} {m:Mp} {st:St} {a:Act} {w:World} {hp:Nat→Option Blk} {E:Operand→SV}

theorem blk_cell (h:RelM cx m st a w) {b g s:Nat} {cs:List SV} (hb:hlook b st.heap=some (.box cs)) (hm:m b=some (g,s)) (j:Nat) (y:SV) (hy:cs[j]?=some y) :
  ∃c,w.cell? ⟨g,0+j,none⟩=some c∧OneR w (AOf cx st.heap m) m y c:=by
 obtain⟨g',s',C,e,h1,h2,h3,h4⟩:=h.hp b _ hb
 rw[hm] at h1
 cases h1
 have hlt:j < C.size:=by
  rw[h3]
  rcases Nat.lt_or_ge j cs.length with h' | h'
  ·exact h'
  ·rw[List.getElem?_eq_none h'] at hy;cases hy
 refine⟨C.getD j undef,?_,h4 j y hy⟩
 rw[cell_of_row w g (0+j) C e (0,0) h2]
 simp [hlt]

theorem does_loadP (h:RelM cx m st a w) (hE:EvR cx m st a w E) (hhp:∀b x,hp b=some x→hlook b st.heap=some x) {t:TypeId} {sz:Nat} {agg:Bool} {x:Operand} {b off:Nat} {cs:List SV} {r:SV} {dst:Option Tmp} {ty:TypeId} {pos:String} {af:Array Edge} {gd:Option (Nat×Bool)}
  (hT:Ty P t sz agg) (hx:E x = .ptr b off) (hb:hp b=some (.box cs)) (hr:ldF agg sz cs off=some r):Does P cx m st a w (execOp a.eval ⟨dst,.load t x,ty,pos,af,gd⟩) r []:=by
 have hv:=hE.ev1 hx (by simp) (by simp) (by simp)
 generalize hq:a.eval x=q at hv
 cases hv with
 | ptr hm =>
  rename_i g s
  obtain⟨v,h1,h2⟩:=run_loadAt (P:=P) hT (g:=g) (o:=0) (fun j y hy=>blk_cell h (hhp b _ hb) hm j y hy) hr
  rw[Nat.zero_add] at h1
  exact .same h (by simp only[execOp,hq];rw[Sem.run_bind,h1];rfl) h2

theorem does_loadE (h:RelM cx m st a w) (hE:EvR cx m st a w E) (hhp:∀b x,hp b=some x→hlook b st.heap=some x) {t:TypeId} {sz:Nat} {agg:Bool} {x:Operand} {b i off s:Nat} {d:Bool} {xs:List SV} {y r:SV} {dst:Option Tmp} {ty:TypeId} {pos:String} {af:Array Edge} {gd:Option (Nat×Bool)}
  (hT:Ty P t sz agg) (hx:E x = .eptr b i off) (hb:hp b=some (.arr d s xs)) (hi:xs[i]?=some y) (hr:ldF agg sz y.cells off=some r):Does P cx m st a w (execOp a.eval ⟨dst,.load t x,ty,pos,af,gd⟩) r []:=by
 have hv:=hE.ev1 hx (by simp) (by simp) (by simp)
 generalize hq:a.eval x=q at hv
 cases hv with
 | eptr hm =>
  rename_i g s'
  obtain⟨rfl,hp',C,e,h2,h3,h4,h5⟩:=(h.hp b _ (hhp b _ hb)).cell hm
  obtain⟨v,h6,h7⟩:=run_loadAt (P:=P) (w:=w) (A:=AOf cx st.heap m) (m:=m) hT (g:=g) (o:=i * s') (cs:=y.cells) (fun j z hz=>⟨_,(h5 i y j z hi hz).1,(h5 i y j z hi hz).2.pure _ (fun _ h=>h) (by cases d;exact(fun _ _ h=>by cases h);exact fun _ _ h=>h)⟩) hr
  exact .same h (by simp only[execOp,hq];rw[Sem.run_bind,h6];rfl) h7

theorem does_loadR (h:RelM cx m st a w) (hE:EvR cx m st a w E) {t:TypeId} {sz:Nat} {agg:Bool} {x:Operand} {cs:List SV} {r:SV} {dst:Option Tmp} {ty:TypeId} {pos:String} {af:Array Edge} {gd:Option (Nat×Bool)}
  (hT:Ty P t sz agg) (hx:E x = .rptr cs) (hr:ldF agg sz cs 0=some r):Does P cx m st a w (execOp a.eval ⟨dst,.load t x,ty,pos,af,gd⟩) r []:=by
 have hv:=hE.ev1 hx (by simp) (by simp) (by simp)
 generalize hq:a.eval x=q at hv
 cases hv with
 | rptr C hm hr' =>
  rename_i blk off
  obtain⟨v,h6,h7⟩:=run_loadAt (P:=P) (w:=w) (A:=AOf cx st.heap m) (m:=m) hT (g:=blk) (o:=off) (cs:=cs) (fun j z hz=>⟨_,(hm j z hz).2,(hr' j z hz).pure _ (fun _ h=>h) (fun _ _ h=>by cases h)⟩) hr
  exact .same h (by simp only[execOp,hq];rw[Sem.run_bind,← Nat.add_zero off,h6];rfl) h7

theorem run_fieldAt {s:TypeId} {f k:Nat} (hF:Fld P s f k) (g o:Nat) (w:World):(Instr.fieldAt s (.pointer (some ⟨g,o,none⟩)) f).run P w = .ok (.pointer (some ⟨g,o+k,none⟩)) w:=by
 obtain⟨fs,fd,h1,h2,h3,n,h4⟩:=hF.get
 have hsz:(sizeOf fd.type).run P w = .ok (n+1) w:=by
  cases hq:P.info? fd.type with
  | none=>simp [hq] at h4
  | some i =>
   have:i.size=n+1:=by simpa [hq] using h4
   simp [sizeOf,typeInfo,hq,this]
 unfold Instr.fieldAt
 simp [run_underlying h1,h2,Instr.sureAddr,fieldPlace,hsz,h3,add_none]

theorem does_field (h:RelM cx m st a w) (hE:EvR cx m st a w E) {s:TypeId} {x:Operand} {f k:Nat} {dst:Option Tmp} {ty:TypeId} {pos:String} {af:Array Edge} {gd:Option (Nat×Bool)} {r:SV} (hF:Fld P s f k) {g o:Nat}
  (hx:a.eval x = .pointer (some ⟨g,o,none⟩)) (hr:OneR w (AOf cx st.heap m) m r (.pointer (some ⟨g,o+k,none⟩))):Does P cx m st a w (execOp a.eval ⟨dst,.fieldAddr s x f,ty,pos,af,gd⟩) r [] :=
 .same h (by simp only[execOp,hx];rw[Sem.run_bind,run_fieldAt hF];rfl) (.one hr)

theorem does_fieldP (h:RelM cx m st a w) (hE:EvR cx m st a w E) {s:TypeId} {x:Operand} {f k b off:Nat} {dst:Option Tmp} {ty:TypeId} {pos:String} {af:Array Edge} {gd:Option (Nat×Bool)} (hF:Fld P s f k) (hx:E x = .ptr b off) :
  Does P cx m st a w (execOp a.eval ⟨dst,.fieldAddr s x f,ty,pos,af,gd⟩) (.ptr b (off+k)) []:=by
 have hv:=hE.ev1 hx (by simp) (by simp) (by simp)
 generalize hq:a.eval x=q at hv
 cases hv with
 | ptr hm=>exact does_field h hE hF hq (.ptr hm)

theorem does_fieldE (h:RelM cx m st a w) (hE:EvR cx m st a w E) {s:TypeId} {x:Operand} {f k b i off:Nat} {dst:Option Tmp} {ty:TypeId} {pos:String} {af:Array Edge} {gd:Option (Nat×Bool)} (hF:Fld P s f k) (hx:E x = .eptr b i off) :
  Does P cx m st a w (execOp a.eval ⟨dst,.fieldAddr s x f,ty,pos,af,gd⟩) (.eptr b i (off+k)) []:=by
 have hv:=hE.ev1 hx (by simp) (by simp) (by simp)
 generalize hq:a.eval x=q at hv
 cases hv with
 | eptr hm=>exact does_field h hE hF hq (by rw[Nat.add_assoc];exact .eptr hm)

theorem does_fieldR (h:RelM cx m st a w) (hE:EvR cx m st a w E) {s:TypeId} {x:Operand} {f k:Nat} {cs:List SV} {dst:Option Tmp} {ty:TypeId} {pos:String} {af:Array Edge} {gd:Option (Nat×Bool)} (hF:Fld P s f k) (hx:E x = .rptr cs) :
  Does P cx m st a w (execOp a.eval ⟨dst,.fieldAddr s x f,ty,pos,af,gd⟩) (.rptr (cs.drop k)) []:=by
 have hv:=hE.ev1 hx (by simp) (by simp) (by simp)
 generalize hq:a.eval x=q at hv
 cases hv with
 | rptr C hm hr =>
  refine does_field h hE hF hq (.rptr (fun j=>C (k+j)) (fun j y hy=>?_) (fun j y hy=>?_))
  ·rw[List.getElem?_drop] at hy;rw[Nat.add_assoc];exact hm _ y hy
  ·rw[List.getElem?_drop] at hy;exact hr _ y hy

theorem Sl.run_size {t e:TypeId} {sz:Nat} (h:Sl P t e sz) (w:World):(sizeOf e).run P w = .ok sz w:=by
 have hs:=h.size
 cases hq:P.info? e with
 | none=>simp [hq] at hs
 | some i =>
  have:i.size=sz:=by simpa [hq] using hs
  simp [sizeOf,typeInfo,hq,this]

theorem run_indexAt {t e:TypeId} {sz:Nat} (hS:Sl P t e sz) (g o len c:Nat) (k:IntKind) (i:Int) (h0:0≤i) (hl:i < len) (w:World) :
  (Instr.indexAt t (.slice (some ⟨g,o,none⟩) len c) (.int k i)).run P w = .ok (.pointer (some ⟨g,o+i.toNat * sz,none⟩)) w:=by
 have hc:0≤i∧i < (len:Int):=⟨h0,hl⟩
 simp [Instr.indexAt,asIntOf,run_underlying hS.under,hc,hS.run_size,add_none]

theorem does_idxL (h:RelM cx m st a w) (hE:EvR cx m st a w E) {t e:TypeId} {sz:Nat} {x ix:Operand} {xs:List SV} {y:SV} {k:IntKind} {i:Int} {dst:Option Tmp} {ty:TypeId} {pos:String} {af:Array Edge} {gd:Option (Nat×Bool)}
  (hS:Sl P t e sz) (hx:E x = .lst xs) (hi:E ix = .v (.int k i)) (h0:0≤i) (hy:xs[i.toNat]?=some y) (hs:y.cells.length=sz) :
  Does P cx m st a w (execOp a.eval ⟨dst,.indexAddr t x ix,ty,pos,af,gd⟩) (.rptr y.cells) []:=by
 have hv:=hE.ev1 hx (by simp) (by simp) (by simp)
 have hi':=hE.evV hi
 have hlt:i.toNat < xs.length:=by
  rcases Nat.lt_or_ge i.toNat xs.length with h' | h'
  ·exact h'
  ·rw[List.getElem?_eq_none h'] at hy;cases hy
 generalize hq:a.eval x=q at hv
 cases hv with
 | nil=>simp at hlt
 | lst C hc hp' hl hm hr =>
  rename_i blk off c sz'
  obtain rfl:sz'=sz:=by rw[← hs];exact(hl y (List.mem_of_getElem? hy)).symm
  refine .same (v := .pointer (some ⟨blk,off+i.toNat * sz',none⟩)) h ?_ (.one (.rptr (fun j=>C i.toNat j) (fun j z hz=>?_) (fun j z hz=>hr _ _ j z hy hz)))
  ·simp only[execOp,hq,hi']
   rw[Sem.run_bind,run_indexAt hS blk off xs.length c k i h0 (by omega)]
   rfl
  ·rw[Nat.add_assoc];exact hm _ _ j z hy hz

theorem does_idxO (h:RelM cx m st a w) (hE:EvR cx m st a w E) (hhp:∀b x,hp b=some x→hlook b st.heap=some x) {t e:TypeId} {sz:Nat} {x ix:Operand} {b off len:Nat} {d:Bool} {xs:List SV} {k:IntKind} {i:Int} {dst:Option Tmp} {ty:TypeId} {pos:String} {af:Array Edge} {gd:Option (Nat×Bool)}
  (hS:Sl P t e sz) (hx:E x = .own b off len) (hb:hp b=some (.arr d sz xs)) (hi:E ix = .v (.int k i)) (h0:0≤i) (hl:i < len) :
  Does P cx m st a w (execOp a.eval ⟨dst,.indexAddr t x ix,ty,pos,af,gd⟩) (.eptr b (off+i.toNat) 0) []:=by
 have hv:=hE.ev1 hx (by simp) (by simp) (by simp)
 have hi':=hE.evV hi
 generalize hq:a.eval x=q at hv
 cases hv with
 | own0 hz=>subst hz;omega
 | own hm hn hc hcap =>
  rename_i g s cap n
  obtain⟨rfl,_⟩:=(h.hp b _ (hhp b _ hb)).cell hm
  refine .same (v := .pointer (some ⟨g,off * s+i.toNat * s,none⟩)) h ?_ (.one ?_)
  ·simp only[execOp,hq,hi']
   rw[Sem.run_bind,run_indexAt hS g (off * s) len cap k i h0 hl]
   rfl
  ·rw[← Nat.add_mul,← Nat.add_zero ((off+i.toNat) * s)]
   exact .eptr hm

theorem does_idxA (h:RelM cx m st a w) (hE:EvR cx m st a w E) {t:TypeId} {n sz:Nat} {x ix:Operand} {b off:Nat} {k:IntKind} {i:Int} {dst:Option Tmp} {ty:TypeId} {pos:String} {af:Array Edge} {gd:Option (Nat×Bool)}
  (hA:Ar P t n sz) (hx:E x = .ptr b off) (hi:E ix = .v (.int k i)) (h0:0≤i) (hl:i < n) :
  Does P cx m st a w (execOp a.eval ⟨dst,.indexAddr t x ix,ty,pos,af,gd⟩) (.ptr b (off+i.toNat * sz)) []:=by
 have hv:=hE.ev1 hx (by simp) (by simp) (by simp)
 have hi':=hE.evV hi
 obtain⟨e,h1,h2⟩:=hA.under
 have hsz:∀w,(sizeOf e).run P w = .ok sz w:=by
  intro w
  cases hq:P.info? e with
  | none=>simp [hq] at h2
  | some i =>
   have:i.size=sz:=by simpa [hq] using h2
   simp [sizeOf,typeInfo,hq,this]
 generalize hq:a.eval x=q at hv
 cases hv with
 | ptr hm =>
  rename_i g s
  have hc:0≤i∧i < (n:Int):=⟨h0,hl⟩
  refine .same (v := .pointer (some ⟨g,off+i.toNat * sz,none⟩)) h ?_ (.one (.ptr hm))
  simp only[execOp,hq,hi']
  simp [Instr.indexAt,asIntOf,run_underlying h1,hc,hsz,add_none,Instr.sureAddr]

theorem does_box (h:RelM cx m st a w) {id:Nat} (hf:Fresh st id) {y:SV} {v:Value} (e:TypeId) (hs:y.solid=true) (hv:VR w (AOf cx st.heap m) m y v) {ρ:Sem Next}
  (hr : ρ.run P w = .ok (.value (.pointer (some ⟨w.heap.size,0,none⟩))) (w.alloc (.cells v.cells e))):Does P cx m st a w ρ (.ptr id 0) [(id,some (.box y.cells))]:=by
 obtain⟨h1,h2⟩:=hv.cells hs
 obtain⟨m',h3,h4,h5,h6⟩:=h.alloc (id:=id) (s:=1) (x := .box y.cells) hf v.cells e (fun w' A' m' hm' hw' k1 k2=>⟨w.heap.size,1,v.cells,e,hm',hw',h1,fun j z hz=>k1 _ _ (h2 j z hz)⟩)
 exact⟨_,_,m',.inl hr,h3,.one (.ptr h4)⟩

end
end Go.Sh
