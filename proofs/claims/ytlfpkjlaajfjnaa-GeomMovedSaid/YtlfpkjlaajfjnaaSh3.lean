/- What is handed to a call (a tree that is read alone) and what comes of it; the contract of a function. -/
import Derived.Test.YtlfpkjlaajfjnaaSh2
set_option linter.unusedVariables false
set_option linter.unusedSimpArgs false
namespace Go.Sh
open Go.RowKit

def AllR (R:SV→SV→Prop):List SV→List SV→Prop
 | [],[]=>True
 | x::xs,y::ys=>R x y∧AllR R xs ys
 | _,_=>False

theorem AllR.len {R:SV→SV→Prop} : ∀ {xs ys:List SV},AllR R xs ys→ys.length=xs.length
 | [],[],_=>rfl
 | x::xs,y::ys,h=>by simp [AllR.len h.2]
 | [],_::_,h=>h.elim
 | _::_,[],h=>h.elim

theorem AllR.get {R:SV→SV→Prop} : ∀ {xs ys:List SV},AllR R xs ys→∀(j:Nat) (x y:SV),xs[j]?=some x→ys[j]?=some y→R x y
 | [],[],_,j,x,y,hx,_=>by simp at hx
 | x::xs,y::ys,h,0,x',y',hx,hy=>by
  simp at hx hy
  subst hx hy
  exact h.1
 | x::xs,y::ys,h,j+1,x',y',hx,hy=>AllR.get h.2 j x' y' (by simpa using hx) (by simpa using hy)
 | [],_::_,h,_,_,_,_,_=>h.elim
 | _::_,[],h,_,_,_,_,_=>h.elim

inductive ExtR (hp:Nat→Option Blk):SV→SV→Prop where
 | v {u:Value} : ExtR hp (.v u) (.v u)
 | nil:ExtR hp (.v (.slice none 0 0)) (.lst [])
 | lst {xs:List SV} : ExtR hp (.lst xs) (.lst xs)
 | rptr {cs:List SV} : ExtR hp (.rptr cs) (.rptr cs)
 | own {b off len sz:Nat} {xs:List SV} (h:hp b=some (.arr false sz xs)) (hle:off+len≤xs.length):ExtR hp (.own b off len) (.lst ((xs.drop off).take len))
 | all {b sz n:Nat} {xs:List SV} (h:hp b=some (.arr false sz xs)) (hn:n=xs.length):ExtR hp (.own b 0 n) (.lst xs)
 | mp {l:List (Int×Int)} : ExtR hp (.mp l) (.mp l)
 | omp {b:Nat} {l:List (Int×Int)} (h:hp b=some (.mpb l)):ExtR hp (.omp b) (.mp l)
 | ptr {b off:Nat} {cs ys:List SV} (h:hp b=some (.box cs)) (hl:ys.length=(cs.drop off).length)
   (hr:∀(j:Nat) (x y:SV),(cs.drop off)[j]?=some x→ys[j]?=some y→ExtR hp x y):ExtR hp (.ptr b off) (.rptr ys)
 | clo {f:FuncId} {cs ys:List SV} (hl:ys.length=cs.length) (hr:∀(j:Nat) (x y:SV),cs[j]?=some x→ys[j]?=some y→ExtR hp x y):ExtR hp (.clo f cs) (.clo f ys)

inductive ExtC (hp:Nat→Option Blk):SV→SV→Prop where
 | one {x y:SV} (h:ExtR hp x y):ExtC hp x y
 | agg {cs ys:List SV} (hl:ys.length=cs.length) (hr:∀(j:Nat) (x y:SV),cs[j]?=some x→ys[j]?=some y→ExtR hp x y):ExtC hp (.agg cs) (.agg ys)

theorem ExtC.agg' {hp:Nat→Option Blk} {cs ys:List SV} (hr:AllR (ExtR hp) cs ys):ExtC hp (.agg cs) (.agg ys) := .agg hr.len hr.get

theorem OneR.pure {w:World} {A:Nat→Prop} {m m':Mp} {y:SV} {v:Value} (h:OneR w A m y v) (A':Nat→Prop) (hA:∀g,A' g→A g) (hm:∀b p,m b=some p→m' b=some p):OneR w A' m' y v :=
 h.mono (fun _ _ _=>rfl) (fun g hg => .inl (hA g hg)) (fun _ _ h=>h) hm

theorem BlkR.cell {w:World} {A:Nat→Prop} {m:Mp} {b sz:Nat} {dp:Bool} {xs:List SV} {g s:Nat} (h:BlkR w A m b (.arr dp sz xs)) (hm:m b=some (g,s)) :
  s=sz∧0 < sz∧∃C e,w.heap[g]?=some (.cells C e (0,0))∧xs.length * sz≤C.size∧(∀x,x ∈ xs→x.cells.length=sz) ∧
   ∀(i:Nat) (x:SV) (j:Nat) (y:SV),xs[i]?=some x→x.cells[j]?=some y→w.cell? ⟨g,i * sz+j,none⟩=some (C.getD (i * sz+j) undef)∧OneR w A (if dp then m else noMp) y (C.getD (i * sz+j) undef):=by
 obtain⟨hp,⟨h1,_⟩ | ⟨g',C,e,h1,h2,h3,h4,h5⟩⟩:=h
 ·rw[hm] at h1;cases h1
 ·rw[hm] at h1
  cases h1
  refine⟨rfl,hp,C,e,h2,h3,h4,fun i x j y hx hy=>⟨?_,h5 i x j y hx hy⟩⟩
  have hi:i < xs.length:=by
   rcases Nat.lt_or_ge i xs.length with h' | h'
   ·exact h'
   ·rw[List.getElem?_eq_none h'] at hx;cases hx
  have hj:j < x.cells.length:=by
   rcases Nat.lt_or_ge j x.cells.length with h' | h'
   ·exact h'
   ·rw[List.getElem?_eq_none h'] at hy;cases hy
  have hxm:x ∈ xs:=List.mem_of_getElem? hx
  rw[h4 x hxm] at hj
  have:i * sz+j < C.size:=by
   have:i * sz+sz≤xs.length * sz:=by rw[← Nat.succ_mul];exact Nat.mul_le_mul_right _ hi
   omega
  rw[cell_of_row w g (i * sz+j) C e (0,0) h2]
  simp [this]

theorem ExtR.sound {cx:Cx} {m:Mp} {st:St} {a:Act} {w:World} {hp:Nat→Option Blk} (h:RelM cx m st a w) (hhp:∀b x,hp b=some x→hlook b st.heap=some x)
  {x y:SV} (he:ExtR hp x y):∀v,OneR w (AOf cx st.heap m) m x v→OneR w (fun _=>False) noMp y v:=by
 induction he with
 | v=>intro v hv;cases hv with | v h=>exact .v h
 | nil=>intro v hv;cases hv with | v h=>exact .nil
 | lst =>
  intro v hv
  cases hv with
  | nil=>exact .nil
  | lst C hc hp hl hm hr=>exact .lst C hc hp hl (fun i x j y h1 h2=>⟨id,(hm i x j y h1 h2).2⟩) (fun i x j y h1 h2=>(hr i x j y h1 h2).pure _ (fun _ h=>h.elim) (fun _ _ h=>h))
 | rptr =>
  intro v hv
  cases hv with
  | rptr C hm hr=>exact .rptr C (fun j y h1=>⟨id,(hm j y h1).2⟩) (fun j y h1=>(hr j y h1).pure _ (fun _ h=>h.elim) (fun _ _ h=>h))
 | mp=>intro v hv;cases hv with | mp h1=>exact .mp ⟨id,h1.2⟩
 | @omp b l hb =>
  intro v hv
  cases hv with
  | omp hm =>
   obtain⟨g',s',h1,h2⟩:=h.hp b _ (hhp b _ hb)
   rw[hm] at h1
   cases h1
   exact .mp ⟨id,h2⟩
 | @own b off len sz xs hb hle =>
  intro v hv
  have hl:((xs.drop off).take len).length=len:=by rw[List.length_take,List.length_drop];omega
  cases hv with
  | own hm hn hc hcap =>
   rename_i g s cap n
   obtain⟨rfl,hp,C,e,h2,h3,h4,h5⟩:=(h.hp b _ (hhp b _ hb)).cell hm
   have key:∀(i:Nat) (x:SV),((xs.drop off).take len)[i]?=some x→xs[off+i]?=some x:=by
    intro i x hx
    rw[List.getElem?_take] at hx
    split at hx
    ·rwa [List.getElem?_drop] at hx
    ·cases hx
   have hlst:=OneR.lst (w:=w) (A:=fun _=>False) (m:=noMp) (xs:=(xs.drop off).take len) (blk:=g) (off:=off * s) (c:=cap) (sz:=s) (fun i j=>C.getD ((off+i) * s+j) undef)
    (by omega) hp (fun x hx=>h4 x (List.mem_of_mem_drop (List.mem_of_mem_take hx)))
    (fun i x j y hx hy=>⟨id,by
     have:=(h5 (off+i) x j y (key i x hx) hy).1
     rw[show off * s+(i * s+j)=(off+i) * s+j by rw[Nat.add_mul];omega]
     exact this⟩)
    (fun i x j y hx hy=>(h5 (off+i) x j y (key i x hx) hy).2.pure _ (fun _ h=>h.elim) (fun _ _ h=>h))
   rwa [hl] at hlst
  | own0 hz=>subst hz;simp only[List.take_zero];exact .nil
 | @all b sz n xs hb hn =>
  intro v hv
  subst hn
  cases hv with
  | own hm hn hc hcap =>
   rename_i g s cap n
   obtain⟨rfl,hp,C,e,h2,h3,h4,h5⟩:=(h.hp b _ (hhp b _ hb)).cell hm
   refine .lst (off:=0 * s) (sz:=s) (fun i j=>C.getD (i * s+j) undef) hcap hp h4 ?_ ?_
   ·intro i x j y hx hy
    refine⟨id,?_⟩
    rw[show 0 * s+(i * s+j)=i * s+j by omega]
    exact(h5 i x j y hx hy).1
   ·exact fun i x j y hx hy=>(h5 i x j y hx hy).2.pure _ (fun _ h=>h.elim) (fun _ _ h=>h)
  | own0 hz =>
   have:xs=[]:=List.length_eq_zero_iff.1 hz
   subst this
   exact .nil
 | @ptr b off cs ys hb hl hr ih =>
  intro v hv
  cases hv with
  | ptr hm =>
   rename_i g s
   obtain⟨g',s',C,e,h1,h2,h3,h4⟩:=h.hp b _ (hhp b _ hb)
   rw[hm] at h1
   cases h1
   have key:∀(j:Nat) (y:SV),ys[j]?=some y→∃x,(cs.drop off)[j]?=some x∧cs[off+j]?=some x∧off+j < C.size:=by
    intro j y hy
    have hlt:j < (cs.drop off).length:=by
     rw[← hl]
     rcases Nat.lt_or_ge j ys.length with h' | h'
     ·exact h'
     ·rw[List.getElem?_eq_none h'] at hy;cases hy
    refine⟨(cs.drop off)[j],by simp [hlt],?_,?_⟩
    ·rw[List.length_drop] at hlt
     rw[List.getElem_drop,List.getElem?_eq_getElem (by omega)]
    ·rw[List.length_drop] at hlt;omega
   refine .rptr (fun j=>C.getD (off+j) undef) ?_ ?_
   ·intro j y hy
    obtain⟨x,_,_,hlt⟩:=key j y hy
    refine⟨id,?_⟩
    rw[cell_of_row w g (off+j) C e (0,0) h2]
    simp [hlt]
   ·intro j y hy
    obtain⟨x,h5,h6,_⟩:=key j y hy
    exact ih j x y h5 hy _ (h4 (off+j) x h6)
 | @clo f cs ys hl hr ih =>
  intro v hv
  cases hv with
  | clo hvl hv =>
   rename_i vs
   refine .clo (by omega) ?_
   intro j y hy
   have hlt:j < cs.length:=by
    rw[← hl]
    rcases Nat.lt_or_ge j ys.length with h' | h'
    ·exact h'
    ·rw[List.getElem?_eq_none h'] at hy;cases hy
   exact ih j cs[j] y (by simp [hlt]) hy _ (hv j cs[j] (by simp [hlt]))

theorem ExtC.sound {cx:Cx} {m:Mp} {st:St} {a:Act} {w:World} {hp:Nat→Option Blk} (h:RelM cx m st a w) (hhp:∀b x,hp b=some x→hlook b st.heap=some x)
  {x y:SV} (he:ExtC hp x y) {v:Value} (hv:VR w (AOf cx st.heap m) m x v):VR w (fun _=>False) noMp y v:=by
 cases he with
 | one he =>
  cases hv with
  | one hv=>exact .one (he.sound h hhp v hv)
  | agg=>cases he
  | tup=>cases he
  | junk=>cases he
 | @agg cs ys hl hr =>
  cases hv with
  | one hv=>cases hv
  | agg hvl hv =>
   rename_i vs
   refine .agg (by omega) ?_
   intro j y hy
   have hlt:j < cs.length:=by
    rw[← hl]
    rcases Nat.lt_or_ge j ys.length with h' | h'
    ·exact h'
    ·rw[List.getElem?_eq_none h'] at hy;cases hy
   exact(hr j cs[j] y (by simp [hlt]) hy).sound h hhp _ (hv j cs[j] (by simp [hlt]))

/-! ### What comes of a call -/
def imp1 (id:Nat):SV→SV×List Blk
 | .frs sz xs=>(.own id 0 xs.length,[.arr false sz xs])
 | x=>(x,[])
def impL (f:Nat→SV→SV×List Blk):Nat→List SV→List SV×List Blk
 | _,[]=>([],[])
 | id,x::xs=>((f id x).1::(impL f (id+(f id x).2.length) xs).1,(f id x).2++(impL f (id+(f id x).2.length) xs).2)
def impC (id:Nat):SV→SV×List Blk
 | .agg cs=>(.agg (impL imp1 id cs).1,(impL imp1 id cs).2)
 | x=>imp1 id x
def impT (id:Nat):SV→SV×List Blk
 | .tup xs=>(.tup (impL impC id xs).1,(impL impC id xs).2)
 | x=>impC id x

def shut1:SV→Bool
 | .own .. | .ptr .. | .eptr .. | .omp _ | .bnd .. | .clo _ (_::_) | .agg _ | .tup _=>false
 | _=>true
def shutC:SV→Bool
 | .agg cs=>cs.all shut1
 | x=>shut1 x
def shutT:SV→Bool
 | .tup xs=>xs.all shutC
 | x=>shutC x

theorem imp1_shift {w:World} {A:Nat→Prop} {m m':Mp} {d:Nat} (hm:∀b,m' (b+d)=m b) (n:Nat) (x:SV) (hx:shut1 x=true) :
  (imp1 (n+d) x).2=(imp1 n x).2∧∀v,OneR w A m (imp1 n x).1 v→OneR w A m' (imp1 (n+d) x).1 v:=by
 cases x with
 | frs sz xs =>
  refine⟨rfl,fun v hv=>?_⟩
  simp only[imp1] at hv ⊢
  cases hv with
  | own h1 h2 h3 h4=>exact .own (by rw[hm,h1]) h2 h3 h4
  | own0 h=>exact .own0 h
 | v u=>exact⟨rfl,fun v hv=>by simp only[imp1] at hv ⊢;cases hv with | v h=>exact .v h⟩
 | lst xs =>
  refine⟨rfl,fun v hv=>?_⟩
  simp only[imp1] at hv ⊢
  cases hv with
  | nil=>exact .nil
  | lst C hc hp hl hm hr=>exact .lst C hc hp hl hm hr
 | rptr cs =>
  refine⟨rfl,fun v hv=>?_⟩
  simp only[imp1] at hv ⊢
  cases hv with
  | rptr C hm hr=>exact .rptr C hm hr
 | clo f cs =>
  cases cs with
  | nil =>
   refine⟨rfl,fun v hv=>?_⟩
   simp only[imp1] at hv ⊢
   cases hv with
   | clo hl h=>exact .clo hl (fun j y hy=>by simp at hy)
  | cons=>simp [shut1] at hx
 | mp l =>
  refine⟨rfl,fun v hv=>?_⟩
  simp only[imp1] at hv ⊢
  cases hv with
  | mp h=>exact .mp h
 | omp=>simp [shut1] at hx
 | bnd=>simp [shut1] at hx
 | junk=>exact⟨rfl,fun v hv=>by simp only[imp1] at hv;cases hv⟩
 | agg=>simp [shut1] at hx
 | tup=>simp [shut1] at hx
 | own=>simp [shut1] at hx
 | ptr=>simp [shut1] at hx
 | eptr=>simp [shut1] at hx

theorem impL_shift {R R':SV→Value→Prop} {f:Nat→SV→SV×List Blk} {ok:SV→Bool} {d:Nat}
  (hf:∀n x,ok x=true→(f (n+d) x).2=(f n x).2∧∀v,R (f n x).1 v→R' (f (n+d) x).1 v) :
  ∀(xs:List SV) (n:Nat),xs.all ok=true→(impL f (n+d) xs).2=(impL f n xs).2∧(impL f (n+d) xs).1.length=(impL f n xs).1.length ∧
   ∀(F:Nat→Value),(∀(j:Nat) (y:SV),(impL f n xs).1[j]?=some y→R y (F j))→∀(j:Nat) (y:SV),(impL f (n+d) xs).1[j]?=some y→R' y (F j)
 | [],n,_=>⟨rfl,rfl,fun F _ j y hy=>by simp [impL] at hy⟩
 | x::xs,n,h=>by
  simp only[List.all_cons,Bool.and_eq_true] at h
  obtain⟨h1,h2⟩:=hf n x h.1
  obtain⟨h3,h4,h5⟩:=impL_shift hf xs (n+(f n x).2.length) h.2
  have e:n+d+(f (n+d) x).2.length=n+(f n x).2.length+d:=by rw[h1];omega
  refine⟨?_,?_,?_⟩
  ·simp only[impL]
   rw[e,h1,h3]
  ·simp only[impL,List.length_cons,e,h4]
  ·intro F hF j y hy
   simp only[impL,e] at hy
   cases j with
   | zero =>
    simp only[List.getElem?_cons_zero,Option.some.injEq] at hy
    subst hy
    exact h2 _ (hF 0 _ (by simp [impL]))
   | succ j =>
    simp only[List.getElem?_cons_succ] at hy
    exact h5 (fun k=>F (k+1)) (fun k z hz=>hF (k+1) z (by simpa [impL] using hz)) j y hy

theorem impC_shift {w:World} {A:Nat→Prop} {m m':Mp} {d:Nat} (hm:∀b,m' (b+d)=m b) (n:Nat) (x:SV) (hx:shutC x=true) :
  (impC (n+d) x).2=(impC n x).2∧∀v,VR w A m (impC n x).1 v→VR w A m' (impC (n+d) x).1 v:=by
 have base:∀x,shut1 x=true→(imp1 (n+d) x).2=(imp1 n x).2∧∀v,VR w A m (imp1 n x).1 v→VR w A m' (imp1 (n+d) x).1 v:=by
  intro x hx
  obtain⟨h1,h2⟩:=imp1_shift (w:=w) (A:=A) hm n x hx
  refine⟨h1,fun v hv=>?_⟩
  generalize hq:(imp1 n x).1=q at hv
  cases hv with
  | one hv=>subst hq;exact .one (h2 v hv)
  | agg=>cases x <;> simp [imp1,shut1] at hq hx
  | tup=>cases x <;> simp [imp1,shut1] at hq hx
  | junk=>cases x <;> simp [imp1] at hq;exact .junk
 cases x with
 | agg cs =>
  obtain⟨h1,h2,h3⟩:=impL_shift (R:=OneR w A m) (R':=OneR w A m') (ok:=shut1) (fun n x hx=>imp1_shift (w:=w) (A:=A) hm n x hx) cs n hx
  refine⟨h1,fun v hv=>?_⟩
  simp only[impC] at hv ⊢
  cases hv with
  | one hv=>cases hv
  | agg hl h=>exact .agg (by rw[hl,h2]) (h3 _ h)
 | v u=>exact base _ hx
 | lst xs=>exact base _ hx
 | rptr cs=>exact base _ hx
 | own=>exact base _ hx
 | ptr=>exact base _ hx
 | eptr=>exact base _ hx
 | clo=>exact base _ hx
 | mp=>exact base _ hx
 | omp=>exact base _ hx
 | bnd=>exact base _ hx
 | tup=>exact base _ hx
 | frs=>exact base _ hx
 | junk=>exact base _ hx

theorem impT_shift {w:World} {A:Nat→Prop} {m m':Mp} {d:Nat} (hm:∀b,m' (b+d)=m b) (n:Nat) (x:SV) (hx:shutT x=true) :
  (impT (n+d) x).2=(impT n x).2∧∀v,VR w A m (impT n x).1 v→VR w A m' (impT (n+d) x).1 v:=by
 cases x with
 | tup xs =>
  obtain⟨h1,h2,h3⟩:=impL_shift (R:=VR w A m) (R':=VR w A m') (ok:=shutC) (fun n x hx=>impC_shift (w:=w) (A:=A) hm n x hx) xs n hx
  refine⟨h1,fun v hv=>?_⟩
  simp only[impT] at hv ⊢
  cases hv with
  | one hv=>cases hv
  | tup hl h=>exact .tup (by rw[hl,h2]) (h3 _ h)
 | v u=>exact impC_shift hm n _ hx
 | lst xs=>exact impC_shift hm n _ hx
 | rptr cs=>exact impC_shift hm n _ hx
 | own=>exact impC_shift hm n _ hx
 | ptr=>exact impC_shift hm n _ hx
 | eptr=>exact impC_shift hm n _ hx
 | clo=>exact impC_shift hm n _ hx
 | mp=>exact impC_shift hm n _ hx
 | omp=>exact impC_shift hm n _ hx
 | bnd=>exact impC_shift hm n _ hx
 | agg=>exact impC_shift hm n _ hx
 | frs=>exact impC_shift hm n _ hx
 | junk=>exact impC_shift hm n _ hx

def ResR (base:Nat) (A:Nat→Prop) (w:World) (res:SV) (v:Value):Prop :=
 ∃m:Mp,(∀b p,m b=some p→b < (impT 0 res).2.length∧base≤p.1∧p.1 < w.heap.size)∧(∀b b' g s s',m b=some (g,s)→m b'=some (g,s')→b=b') ∧
  (∀(k:Nat) (x:Blk),(impT 0 res).2[k]?=some x→BlkR w (fun g=>A g∨∃b s,m b=some (g,s)) m k x)∧VR w (fun g=>A g∨∃b s,m b=some (g,s)) m (impT 0 res).1 v

structure PC (P:Program) (al:Bool) (f:FuncId) (args:List SV) (res:SV):Prop where
 enters:∃fn,P.funcs[f]?=some fn∧(fn.name == "runtime.NumGoroutine")=false∧fn.body.isNone=false
 shut:shutT res=true
 calls:∀(w:World) (A:Nat→Prop) (vs:Array Value),(∀g,A g→g < w.heap.size)→vs.size=args.length →
  (∀(j:Nat) (y:SV),args[j]?=some y→VR w (fun g=>al=true∧A g) noMp y (vs.getD j undef)) →
  Calls P f vs w fun e w'=>∃v,e = .returned v∧Below w.heap.size w w'∧ResR w.heap.size (fun g=>g < w.heap.size∧(al=true→A g)) w' res v

end Go.Sh
