/- A shadow of the model's memory: values as trees, blocks that a call owns; what a world has of them; that it lasts while the world grows. No program in sight. -/
import Derived.Below
import Derived.Orders
import Derived.Deep.LoopGhost
import Derived.Laws.Rows
import Derived.WalkKit
import Derived.Maps.RangeRun
set_option linter.unusedVariables false
set_option linter.unusedSimpArgs false
namespace Go.Sh
open Go.RowKit

def one:Value→Bool
 | .agg _ | .tuple _=>false
 | _=>true

inductive SV where
 | v (u:Value)
 | agg (cs:List SV)
 | lst (xs:List SV)
 | rptr (cs:List SV)
 | own (b off len:Nat)
 | ptr (b off:Nat)
 | eptr (b i off:Nat)
 | clo (f:FuncId) (caps:List SV)
 | mp (l:List (Int×Int))
 | omp (b:Nat)
 | bnd (f:FuncId) (fs:List SV)
 | tup (xs:List SV)
 | frs (sz:Nat) (xs:List SV)
 | junk
 deriving Inhabited

def SV.cells:SV→List SV
 | .agg cs=>cs
 | x=>[x]

inductive Blk where
 | box (cs:List SV)
 | arr (deep:Bool) (sz:Nat) (xs:List SV)
 | mpb (l:List (Int×Int))
 | iter (l r:List (Int×Int)) (e:Option (Int×Int))

def mes:List (Int×Int)→Nat→List MapEntry
 | [],_=>[]
 | p::l,n=>⟨.int .i64 p.1,.int .i64 p.2,n⟩::mes l (n+1)
def mobj (l:List (Int×Int)):Obj := .map (mes l 0).toArray l.length

def ekv (p:Int×Int):Value×Value:=(.int .i64 p.1,.int .i64 p.2)
def ItR (l r:List (Int×Int)) (e:Option (Int×Int)) (seen:Array Nat):Prop :=
 (leftOf (mes l 0).toArray seen).toList.map (fun x=>(x.key,x.val))=r.map ekv∧∀p,e=some p→∃(x:MapEntry) (sn:Array Nat),x ∈ mes l 0∧seen=sn.push x.born∧(x.key,x.val)=ekv p

abbrev Mp:=Nat→Option (Nat×Nat)
abbrev noMp:Mp:=fun _=>none

def rowSize (w:World) (g:Nat):Option Nat :=
 match w.heap[g]? with
 | some (.cells C _ _)=>some C.size
 | _=>none

theorem rowSize_of {w w':World} {g:Nat} (h:w'.heap[g]?=w.heap[g]?):rowSize w' g=rowSize w g:=by unfold rowSize;rw[h]

inductive OneR (w:World) (A:Nat→Prop):Mp→SV→Value→Prop where
 | v {m:Mp} {u:Value} (h:one u=true):OneR w A m (.v u) u
 | nil {m:Mp} {a:Option Addr} {c:Nat} : OneR w A m (.lst []) (.slice a 0 c)
 | lst {m:Mp} {xs:List SV} {blk off c sz:Nat} (C:Nat→Nat→Value) (hc:xs.length≤c) (hp:0 < sz) (hl:∀x,x ∈ xs→x.cells.length=sz)
   (hm:∀(i:Nat) (x:SV) (j:Nat) (y:SV),xs[i]?=some x→x.cells[j]?=some y→¬A blk∧w.cell? ⟨blk,off+(i * sz+j),none⟩=some (C i j))
   (hr:∀(i:Nat) (x:SV) (j:Nat) (y:SV),xs[i]?=some x→x.cells[j]?=some y→OneR w A noMp y (C i j)) :
   OneR w A m (.lst xs) (.slice (some ⟨blk,off,none⟩) xs.length c)
 | rptr {m:Mp} {cs:List SV} {blk off:Nat} (C:Nat→Value)
   (hm:∀(j:Nat) (y:SV),cs[j]?=some y→¬A blk∧w.cell? ⟨blk,off+j,none⟩=some (C j))
   (hr:∀(j:Nat) (y:SV),cs[j]?=some y→OneR w A noMp y (C j)) :
   OneR w A m (.rptr cs) (.pointer (some ⟨blk,off,none⟩))
 | own {m:Mp} {b off len g sz cap n:Nat} (hm:m b=some (g,sz)) (hn:rowSize w g=some n) (hc:(off+cap) * sz≤n) (hl:len≤cap) :
   OneR w A m (.own b off len) (.slice (some ⟨g,off * sz,none⟩) len cap)
 | own0 {m:Mp} {b off len:Nat} {a:Option Addr} (h:len=0):OneR w A m (.own b off len) (.slice a 0 0)
 | ptr {m:Mp} {b off g sz:Nat} (hm:m b=some (g,sz)):OneR w A m (.ptr b off) (.pointer (some ⟨g,off,none⟩))
 | eptr {m:Mp} {b i off g sz:Nat} (hm:m b=some (g,sz)):OneR w A m (.eptr b i off) (.pointer (some ⟨g,i * sz+off,none⟩))
 | clo {m:Mp} {f:FuncId} {caps:List SV} {vs:Array Value} (hl:vs.size=caps.length) (h:∀(j:Nat) (y:SV),caps[j]?=some y→OneR w A m y (vs.getD j undef)) :
   OneR w A m (.clo f caps) (.func (.func f) #[] vs)
 | mp {m:Mp} {l:List (Int×Int)} {blk:Nat} (hm:¬A blk∧w.heap[blk]?=some (mobj l)):OneR w A m (.mp l) (.map (some blk))
 | omp {m:Mp} {b g sz:Nat} (hm:m b=some (g,sz)):OneR w A m (.omp b) (.map (some g))
 | bnd {m:Mp} {f:FuncId} {fs:List SV} {vs:Array Value} (hl:vs.size=fs.length) (h:∀(j:Nat) (y:SV),fs[j]?=some y→OneR w A m y (vs.getD j undef)):OneR w A m (.bnd f fs) (.func (.func f) vs #[])

theorem OneR.isOne {w:World} {A:Nat→Prop} {m:Mp} {x:SV} {v:Value} (h:OneR w A m x v):one v=true:=by
 cases h <;> first | assumption | rfl

theorem OneR.cells {w:World} {A:Nat→Prop} {m:Mp} {x:SV} {v:Value} (h:OneR w A m x v):v.cells = #[v]:=by
 have:=h.isOne
 cases v <;> first | rfl | simp [one] at this

theorem OneR.cells' {w:World} {A:Nat→Prop} {m:Mp} {x:SV} {v:Value} (h:OneR w A m x v):x.cells=[x]:=by
 cases h <;> rfl

theorem OneR.mono {w w':World} {A A':Nat→Prop} {m m':Mp} {x:SV} {v:Value} (h:OneR w A m x v)
  (hro:∀g,¬A g→g < w.heap.size→w'.heap[g]?=w.heap[g]?) (hA:∀g,A' g→A g∨w.heap.size≤g)
  (hsz:∀g n,rowSize w g=some n→rowSize w' g=some n) (hm:∀b p,m b=some p→m' b=some p):OneR w' A' m' x v:=by
 have key:∀ {blk o:Nat} {v:Value},¬A blk→w.cell? ⟨blk,o,none⟩=some v→¬A' blk∧w'.cell? ⟨blk,o,none⟩=some v:=by
  intro blk o v h1 h2
  have hlt:blk < w.heap.size:=World.block_lt_of_cell? w _ h2
  refine⟨fun h3=>?_,?_⟩
  ·rcases hA _ h3 with h | h
   ·exact h1 h
   ·omega
  ·rw[World.cell?_of_block (w:=w) (hro blk h1 hlt)];exact h2
 induction h generalizing m' with
 | v h=>exact .v h
 | nil=>exact .nil
 | lst C hc hp hl hm' _ ih=>exact .lst C hc hp hl (fun i x j y h1 h2=>key (hm' i x j y h1 h2).1 (hm' i x j y h1 h2).2) (fun i x j y h1 h2=>ih i x j y h1 h2 (fun _ _ h=>h))
 | rptr C hm' _ ih=>exact .rptr C (fun j y h1=>key (hm' j y h1).1 (hm' j y h1).2) (fun j y h1=>ih j y h1 (fun _ _ h=>h))
 | own h1 h2 h3 h4=>exact .own (hm _ _ h1) (hsz _ _ h2) h3 h4
 | own0 h=>exact .own0 h
 | ptr h1=>exact .ptr (hm _ _ h1)
 | eptr h1=>exact .eptr (hm _ _ h1)
 | clo hl _ ih=>exact .clo hl (fun j y h1=>ih j y h1 hm)
 | @mp m l blk h1 =>
  have hlt:blk < w.heap.size:=by
   rcases Nat.lt_or_ge blk w.heap.size with h | h
   ·exact h
   ·rw[Array.getElem?_eq_none h] at h1
    cases h1.2
  refine .mp ⟨fun h3=>?_,by rw[hro blk h1.1 hlt];exact h1.2⟩
  rcases hA _ h3 with h | h
  ·exact h1.1 h
  ·omega
 | omp h1=>exact .omp (hm _ _ h1)
 | bnd hl _ ih=>exact .bnd hl (fun j y h1=>ih j y h1 hm)

inductive VR (w:World) (A:Nat→Prop) (m:Mp):SV→Value→Prop where
 | one {x:SV} {v:Value} (h:OneR w A m x v):VR w A m x v
 | agg {cs:List SV} {vs:Array Value} (hl:vs.size=cs.length) (h:∀(j:Nat) (y:SV),cs[j]?=some y→OneR w A m y (vs.getD j undef)):VR w A m (.agg cs) (.agg vs)
 | tup {xs:List SV} {vs:Array Value} (hl:vs.size=xs.length) (h:∀(j:Nat) (y:SV),xs[j]?=some y→VR w A m y (vs.getD j undef)):VR w A m (.tup xs) (.tuple vs)
 | junk {v:Value} : VR w A m .junk v

theorem VR.mono {w w':World} {A A':Nat→Prop} {m m':Mp} {x:SV} {v:Value} (h:VR w A m x v)
  (hro:∀g,¬A g→g < w.heap.size→w'.heap[g]?=w.heap[g]?) (hA:∀g,A' g→A g∨w.heap.size≤g)
  (hsz:∀g n,rowSize w g=some n→rowSize w' g=some n) (hm:∀b p,m b=some p→m' b=some p):VR w' A' m' x v:=by
 induction h with
 | one h=>exact .one (h.mono hro hA hsz hm)
 | agg hl h=>exact .agg hl fun j y hy=>(h j y hy).mono hro hA hsz hm
 | tup hl _ ih=>exact .tup hl ih
 | junk=>exact .junk

def SV.solid:SV→Bool
 | .junk | .tup _ | .frs ..=>false
 | _=>true

theorem VR.cells {w:World} {A:Nat→Prop} {m:Mp} {x:SV} {v:Value} (h:VR w A m x v) (hx:x.solid=true) :
  v.cells.size=x.cells.length∧∀(j:Nat) (y:SV),x.cells[j]?=some y→OneR w A m y (v.cells.getD j undef):=by
 cases h with
 | one h =>
  rw[h.cells,h.cells']
  refine⟨rfl,fun j y hy=>?_⟩
  cases j with
  | zero=>simp at hy;subst hy;simpa using h
  | succ j=>simp at hy
 | agg hl h=>exact⟨hl,h⟩
 | tup=>simp [SV.solid] at hx
 | junk=>simp [SV.solid] at hx

/-! ### States -/
def look {α:Type} (k:Nat):List (Nat × α)→Option α
 | []=>none
 | (j,x)::r=>bif Nat.beq k j then some x else look k r

theorem look_cons {α:Type} (k j:Nat) (x : α) (r:List (Nat × α)):look k ((j,x)::r)=if k=j then some x else look k r:=by
 by_cases h:k=j
 ·subst h;simp [look]
 ·have:Nat.beq k j=false:=by
   cases hb:Nat.beq k j with
   | false=>rfl
   | true=>exact absurd (Nat.eq_of_beq_eq_true hb) h
  simp [look,this,h]

theorem look_append {α:Type} (k:Nat) (l r:List (Nat × α)):look k (l++r)=(look k l).or (look k r):=by
 induction l with
 | nil=>simp [look]
 | cons p l ih =>
  obtain⟨j,x⟩:=p
  rw[List.cons_append,look_cons,look_cons]
  split <;> simp [ih]

abbrev Env:=List (Nat×SV)
abbrev Hp:=List (Nat×Option Blk)
def hlook (b:Nat) (h:Hp):Option Blk :=
 match look b h with
 | some x=>x
 | none=>none

structure St where
 env:Env
 heap:Hp
 nx:Nat
 al:List Nat

structure BelowE (E:Nat→Prop) (n:Nat) (w w':World):Prop where
 os:w'.os=w.os
 tape:w'.tape=w.tape
 output:w'.output=w.output
 size:w.heap.size≤w'.heap.size
 block:∀k,k < n→¬E k→w'.heap[k]?=w.heap[k]?
 rows:∀g s,rowSize w g=some s→rowSize w' g=some s
theorem BelowE.refl (E:Nat→Prop) (n:Nat) (w:World):BelowE E n w w:=⟨rfl,rfl,rfl,Nat.le_refl _,fun _ _ _=>rfl,fun _ _ h=>h⟩
theorem BelowE.trans {E:Nat→Prop} {n:Nat} {a b c:World} (h:BelowE E n a b) (k:BelowE E n b c):BelowE E n a c :=
 ⟨k.os.trans h.os,k.tape.trans h.tape,k.output.trans h.output,Nat.le_trans h.size k.size,fun i hi he=>(k.block i hi he).trans (h.block i hi he),fun g s hg=>k.rows g s (h.rows g s hg)⟩
theorem BelowE.to {E:Nat→Prop} {n:Nat} {w w':World} (h:BelowE E n w w') (hE:∀g,¬E g):Below n w w':=⟨h.os,h.tape,h.output,h.size,fun k hk=>h.block k hk (hE k)⟩
theorem BelowE.of {E:Nat→Prop} {n:Nat} {w w':World} (h:Below w.heap.size w w') (hn:n≤w.heap.size):BelowE E n w w' :=
 ⟨h.os,h.tape,h.output,h.size,fun k hk _=>h.block k (Nat.lt_of_lt_of_le hk hn),fun g s hg=>by
  have hlt:g < w.heap.size:=by
   rcases Nat.lt_or_ge g w.heap.size with h' | h'
   ·exact h'
   ·simp [rowSize,Array.getElem?_eq_none h'] at hg
  rw[rowSize_of (h.block g hlt)];exact hg⟩

structure Cx where
 base:Nat
 B:Nat→Prop
 w0:World
 n:Nat
 E:Nat→Prop
 r:Nat
 m0:Mp

def OwnP (h:Hp) (m:Mp) (g:Nat):Prop:=∃b x s,hlook b h=some x∧m b=some (g,s)

def BlkR (w:World) (A:Nat→Prop) (m:Mp) (b:Nat):Blk→Prop
 | .box cs=>∃g s C e,m b=some (g,s)∧w.heap[g]?=some (.cells C e (0,0))∧C.size=cs.length∧∀(j:Nat) (y:SV),cs[j]?=some y→OneR w A m y (C.getD j undef)
 | .arr d sz xs=>0 < sz∧((m b=none∧xs=[])∨∃g C e,m b=some (g,sz)∧w.heap[g]?=some (.cells C e (0,0))∧xs.length * sz≤C.size∧(∀x,x ∈ xs→x.cells.length=sz) ∧
   ∀(i:Nat) (x:SV) (j:Nat) (y:SV),xs[i]?=some x→x.cells[j]?=some y→OneR w A (if d then m else noMp) y (C.getD (i * sz+j) undef))
 | .mpb l=>∃g s,m b=some (g,s)∧w.heap[g]?=some (mobj l)
 | .iter l r e=>∃g s gm seen,m b=some (g,s)∧w.heap[g]?=some (.mapIter (some gm) l.length seen l.length)∧¬A gm∧w.heap[gm]?=some (mobj l)∧ItR l r e seen

structure RelM (cx:Cx) (m:Mp) (st:St) (a:Act) (w:World):Prop where
 below:BelowE cx.E cx.base cx.w0 w
 basele:cx.base≤w.heap.size
 bsmall:∀g,cx.B g→g < cx.base∧¬cx.E g
 pin:∀i,i < cx.r→m i=cx.m0 i∧i < st.nx
 defs:a.defers=[]
 size:a.tmps.size=cx.n
 env:∀t x,look t st.env=some x→VR w (fun g=>cx.B g∨OwnP st.heap m g) m x (a.tmps.getD t undef)
 dom:∀b p,m b=some p→(b < st.nx∨b ∈ st.al)∧(cx.base≤p.1∨cx.E p.1)∧p.1 < w.heap.size
 hnx:∀b x,hlook b st.heap=some x→b < st.nx∨b ∈ st.al
 inj:∀b b' x y g s s',hlook b st.heap=some x→hlook b' st.heap=some y→m b=some (g,s)→m b'=some (g,s')→b=b'
 hp:∀b x,hlook b st.heap=some x→BlkR w (fun g=>cx.B g∨OwnP st.heap m g) m b x

def Rel (cx:Cx) (st:St) (a:Act) (w:World):Prop:=∃m,RelM cx m st a w

theorem BlkR.mono {w w':World} {A A':Nat→Prop} {m m':Mp} {b:Nat} {x:Blk} (h:BlkR w A m b x) (hb:m' b=m b)
  (hro:∀g,¬A g→g < w.heap.size→w'.heap[g]?=w.heap[g]?) (hA:∀g,A' g→A g∨w.heap.size≤g)
  (hsz:∀g n,rowSize w g=some n→rowSize w' g=some n) (hm:∀b p,m b=some p→m' b=some p)
  (hown:∀g s,m b=some (g,s)→w'.heap[g]?=w.heap[g]?):BlkR w' A' m' b x:=by
 cases x with
 | box cs =>
  obtain⟨g,s,C,e,h1,h2,h3,h4⟩:=h
  exact⟨g,s,C,e,by rw[hb,h1],by rw[hown g s h1,h2],h3,fun j y hy=>(h4 j y hy).mono hro hA hsz hm⟩
 | arr d sz xs =>
  obtain⟨hp,h | ⟨g,C,e,h1,h2,h3,h4,h5⟩⟩:=h
  ·exact⟨hp,.inl ⟨by rw[hb,h.1],h.2⟩⟩
  ·refine⟨hp,.inr ⟨g,C,e,by rw[hb,h1],by rw[hown g sz h1,h2],h3,h4,fun i x j y hx hy=>(h5 i x j y hx hy).mono hro hA hsz ?_⟩⟩
   cases d
   ·exact fun _ _ h=>h
   ·exact hm
 | mpb l =>
  obtain⟨g,s,h1,h2⟩:=h
  exact⟨g,s,by rw[hb,h1],by rw[hown g s h1,h2]⟩
 | iter l r e =>
  obtain⟨g,s,gm,seen,h1,h2,h3,h4,h5⟩:=h
  have hlt:gm < w.heap.size:=by
   rcases Nat.lt_or_ge gm w.heap.size with h | h
   ·exact h
   ·rw[Array.getElem?_eq_none h] at h4
    cases h4
  refine⟨g,s,gm,seen,by rw[hb,h1],by rw[hown g s h1,h2],fun h6=>?_,by rw[hro gm h3 hlt];exact h4,h5⟩
  rcases hA _ h6 with h | h
  ·exact h3 h
  ·omega

theorem RelM.grow {cx:Cx} {m:Mp} {st:St} {a:Act} {w w':World} (h:RelM cx m st a w) (hb:Below w.heap.size w w'):RelM cx m st a w':=by
 have hro:∀g,g < w.heap.size→w'.heap[g]?=w.heap[g]?:=fun g hg=>hb.block g hg
 have hsz:∀g n,rowSize w g=some n→rowSize w' g=some n:=by
  intro g n hn
  have hlt:g < w.heap.size:=by
   rcases Nat.lt_or_ge g w.heap.size with h' | h'
   ·exact h'
   ·simp [rowSize,Array.getElem?_eq_none h'] at hn
  rw[rowSize_of (hro g hlt),hn]
 exact {
  below:=h.below.trans (.of hb h.basele)
  basele:=Nat.le_trans h.basele hb.size
  bsmall:=h.bsmall
  pin:=h.pin
  defs:=h.defs
  size:=h.size
  env:=fun t x hx=>(h.env t x hx).mono (fun g _ hg=>hro g hg) (fun g hg => .inl hg) hsz (fun _ _ h=>h)
  dom:=fun b p hp=>⟨(h.dom b p hp).1,(h.dom b p hp).2.1,Nat.lt_of_lt_of_le (h.dom b p hp).2.2 hb.size⟩
  hnx:=h.hnx
  inj:=h.inj
  hp:=fun b x hx=>(h.hp b x hx).mono rfl (fun g _ hg=>hro g hg) (fun g hg => .inl hg) hsz (fun _ _ h=>h) (fun g s hs=>hro g (h.dom b _ hs).2.2) }

def St.put (st:St) (d:Option Tmp) (x:SV):St :=
 match d with
 | some d => { st with env:=(d,x)::st.env }
 | none=>st

theorem getD_set (tm:Array Value) (d t:Nat) (v:Value) (hd:d < tm.size):(tm.setIfInBounds d v).getD t undef=if t=d then v else tm.getD t undef:=by
 simp only[Array.getD_eq_getD_getElem?,Array.getElem?_setIfInBounds]
 by_cases h:d=t
 ·subst h;simp [hd]
 ·rw[if_neg h,if_neg (fun e:t=d=>h e.symm)]

theorem RelM.put {cx:Cx} {m:Mp} {st:St} {a:Act} {w:World} {d:Option Tmp} {x:SV} {v:Value} (h:RelM cx m st a w) (hd:∀t,d=some t→t < cx.n)
  (hv:d ≠ none→VR w (fun g=>cx.B g∨OwnP st.heap m g) m x v):RelM cx m (st.put d x) (a.put d v) w:=by
 cases d with
 | none=>exact h
 | some d =>
  refine { h with defs:=h.defs,size:=by simpa [Act.put] using h.size,env:=?_ }
  intro t y hy
  simp only[St.put,look_cons] at hy
  simp only[Act.put,getD_set _ _ _ _ (show d < a.tmps.size by rw[h.size];exact hd d rfl)]
  split at hy
  ·rename_i he
   subst he
   simp only[Option.some.injEq] at hy
   subst hy
   rw[if_pos rfl]
   exact hv (by simp)
  ·rename_i he
   rw[if_neg he]
   exact h.env t y hy

end Go.Sh
