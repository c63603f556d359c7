/- A row's arguments, opened into trees, and the row's step out of a contract. -/
import Derived.Test.YtlfpkjlaajfjnaaShG
import Derived.ProofKit
import Derived.OpenShut
import Derived.ChangeSame
import Derived.Carry
import Derived.WideKeyArgs
set_option linter.unusedVariables false
set_option linter.unusedSimpArgs false
namespace Go.Sh
open Go.RowKit Go.ChangeShapes Go.WideShapes Go.ChangeAt

def CellsR (w:World) (ys:List SV) (cs:List Value):Prop:=cs.length=ys.length∧∀(j:Nat) (y:SV),ys[j]?=some y→OneR w (fun _=>False) noMp y (cs.getD j undef)

structure Opens (P:Program) (t:TypeId) (n:Nat) {α:Type} (f : α→List SV) (ok : α→Prop):Prop where
 size:P.cellsOf t=n
 len:∀a,(f a).length=n
 opens:∀ {H:Type} (enc:TypeId×Value→H) (w:World) (base:Nat) (sp:Nat→Bool) (held:Bool) (fuel:Nat) (cs:List Value) (x:DataW H×List MemPlace),DataW.trod enc P w base sp held fuel t cs=some x→∃a,ok a∧CellsR w (f a) cs

section
variable {P:Program} {t e:TypeId}
theorem CellsR.one {w:World} {y:SV} {v:Value} (h:OneR w (fun _=>False) noMp y v):CellsR w [y] [v]:=⟨rfl,fun j y' hj=>by
 have:=lt_of_get hj
 have h0:j=0:=by simpa using this
 subst h0
 simp at hj
 subst hj
 exact h⟩
theorem opens_int {k:IntKind} (ht:P.underlying t=some (.int k)) (hc:P.cellsOf t=1):Opens P t 1 (fun n:Int=>[SV.v (.int k n)]) (fun n=>(Lit.int k n).wf=true) :=
 ⟨hc,fun _=>rfl,fun enc w base sp held fuel cs x h=>by
  obtain⟨n,rfl,_,hw⟩:=DataW.trod_int ht h
  exact⟨n,hw,.one (.v rfl)⟩⟩
theorem Opens.map {n:Nat} {α β:Type} {f : α→List SV} {ok : α→Prop} (h:Opens P t n f ok) {f' : β→List SV} {ok' : β→Prop} (g : α → β) (hf:∀a,f' (g a)=f a) (hok:∀a,ok a→ok' (g a)) (hl:∀b,(f' b).length=n):Opens P t n f' ok' :=
 ⟨h.size,hl,fun enc w base sp held fuel cs x hx=>by
  obtain⟨a,h1,h2⟩:=h.opens enc w base sp held fuel cs x hx
  exact⟨g a,hok a h1,by rw[hf];exact h2⟩⟩

theorem spot_none {w:World} {a:Addr} {v:Value} (h:w.cell? a=some v):a=⟨a.block,a.off,none⟩:=by
 obtain⟨b,o,s⟩:=a
 unfold World.cell? at h
 split at h
 ·cases s with
  | none=>rfl
  | some=>simp at h
 ·cases h
theorem add_of (b o n:Nat):(⟨b,o,none⟩:Addr).add n=⟨b,o+n,none⟩:=by
 unfold Addr.add
 split
 ·simp [*]
 ·rfl

theorem list_of {α:Type} {Q:Nat → α→Prop} : ∀(n:Nat),(∀i,i < n→∃z,Q i z)→∃l:List α,l.length=n∧∀i z,l[i]?=some z→Q i z
 | 0,_=>⟨[],rfl,fun i z h=>by simp at h⟩
 | n+1,h=>by
  obtain⟨l,h1,h2⟩:=list_of n (fun i hi=>h i (by omega))
  obtain⟨z,hz⟩:=h n (by omega)
  refine⟨l++[z],by simp [h1],fun i y hy=>?_⟩
  rcases Nat.lt_or_ge i n with hi | hi
  ·rw[List.getElem?_append_left (by omega)] at hy
   exact h2 i y hy
  ·rw[List.getElem?_append_right (by omega)] at hy
   have:=lt_of_get hy
   have hi0:i-l.length=0:=by simpa using this
   rw[hi0] at hy
   simp at hy
   subst hy
   rw[show i=n by omega]
   exact hz

theorem opens_slice {n:Nat} {α:Type} {f : α→List SV} {ok : α→Prop} (ht:P.underlying t=some (.slice e)) (hc:P.cellsOf t=1) (he:Opens P e n f ok) (hn:0 < n) (mk : α→SV) (hmk:∀a,(mk a).cells=f a) :
  Opens P t 1 (fun l:List α=>[SV.lst (l.map mk)]) (fun l=>l.length≤maxLen∧∀x,x ∈ l→ok x) :=
 ⟨hc,fun _=>rfl,fun {H} enc w base sp held fuel cs x h=>by
  rcases DataW.trod_slice ht h with⟨rfl,_⟩ | ⟨a,len,cap,elems,rest,m,_,rfl,rfl,hb,hl,hm,hlen,hel,_,_⟩
  ·exact⟨[],⟨Nat.zero_le _,fun x hx=>by cases hx⟩,.one .nil⟩
  ·obtain⟨l,l1,l2⟩:=list_of (Q:=fun i z=>ok z∧∃cs',w.cells? base (a.add (i * n)) n=some cs'∧CellsR w (f z) cs') len (fun i hi=>by
    have h1:=hel i hi
    rw[List.getElem?_eq_getElem (by omega),Option.bind_eq_some_iff,he.size] at h1
    obtain⟨cs',h2,h3⟩:=h1
    obtain⟨z,h4,h5⟩:=he.opens enc w base sp held m cs' _ h3
    exact⟨z,h4,cs',h2,h5⟩)
   refine⟨l,⟨by omega,fun x hx=>?_⟩,.one ?_⟩
   ·obtain⟨i,hi⟩:=List.getElem?_of_mem hx
    exact(l2 i x hi).1
   ·cases l with
    | nil =>
     simp at l1
     subst l1
     exact .nil
    | cons z0 r =>
     have ha:a=⟨a.block,a.off,none⟩:=by
      obtain⟨_,cs',c1,_⟩:=l2 0 z0 rfl
      obtain⟨_,c2,c3⟩:=World.cells?_some c1
      have:=c3 0 hn
      simp only[Nat.zero_mul] at this
      rw[List.getElem?_eq_getElem (by omega)] at this
      exact spot_none this
     have ll:((z0::r).map mk).length=len:=by simpa using l1
     rw[ha,← ll]
     refine .lst (fun i j=>(w.cell? ⟨a.block,a.off+(i * n+j),none⟩).getD undef) (by omega) hn (fun x hx=>?_) (fun i x j y hx hy=>?_) (fun i x j y hx hy=>?_)
     ·obtain⟨z,_,rfl⟩:=List.mem_map.1 hx
      rw[hmk,he.len]
     all_goals
      simp only[List.getElem?_map,Option.map_eq_some_iff] at hx
      obtain⟨z,hz,rfl⟩:=hx
      rw[hmk] at hy
      have hj:j < n:=by have:=lt_of_get hy;rw[he.len] at this;exact this
      obtain⟨_,cs',c1,c4,c5⟩:=l2 i z hz
      obtain⟨_,c2,c3⟩:=World.cells?_some c1
      have hc:=c3 j hj
      rw[ha,add_of,add_of,List.getElem?_eq_getElem (by omega),Nat.add_assoc] at hc
     ·exact⟨id,by rw[hc];rfl⟩
     ·have:=c5 j y hy
      rw[hc]
      simpa [List.getD,List.getElem?_eq_getElem (show j < cs'.length by omega)] using this⟩

structure OpensL (P:Program) (fs:List Field) (off n:Nat) {α:Type} (f : α→List SV) (ok : α→Prop):Prop where
 len:∀a,(f a).length=n
 opens:∀ {H:Type} (enc:TypeId×Value→H) (w:World) (base:Nat) (sp:Nat→Bool) (held:Bool) (fuel:Nat) (cs:List Value),(∀(i:Nat) (fd:Field),fs[i]?=some fd→∃x,DataW.trod enc P w base sp held fuel fd.type ((cs.drop fd.offset).take (P.cellsOf fd.type))=some x) →
  ∃a,ok a∧∀(j:Nat) (y:SV),(f a)[j]?=some y→OneR w (fun _=>False) noMp y (cs.getD (off+j) undef)

theorem OpensL.nil {off:Nat} : OpensL P [] off 0 (fun _:Unit=>[]) (fun _=>True) :=
 ⟨fun _=>rfl,fun enc w base sp held fuel cs h=>⟨(),trivial,fun j y hy=>by simp at hy⟩⟩
theorem OpensL.cons {off n1 n2:Nat} {fd:Field} {fs:List Field} {α β:Type} {f1 : α→List SV} {ok1 : α→Prop} {f2 : β→List SV} {ok2 : β→Prop} (ho:fd.offset=off) (h1:Opens P fd.type n1 f1 ok1) (h2:OpensL P fs (off+n1) n2 f2 ok2) :
  OpensL P (fd::fs) off (n1+n2) (fun p : α × β=>f1 p.1++f2 p.2) (fun p=>ok1 p.1∧ok2 p.2) :=
 ⟨fun a=>by simp [h1.len,h2.len],fun enc w base sp held fuel cs h=>by
  obtain⟨x,hx⟩:=h 0 fd rfl
  obtain⟨a,a1,a2,a3⟩:=h1.opens enc w base sp held fuel _ x hx
  obtain⟨b,b1,b2⟩:=h2.opens enc w base sp held fuel cs (fun i g hg=>h (i+1) g (by simpa using hg))
  refine⟨(a,b),⟨a1,b1⟩,fun j y hy=>?_⟩
  rcases Nat.lt_or_ge j n1 with hj | hj
  ·rw[List.getElem?_append_left (by rw[h1.len];exact hj)] at hy
   have:=a3 j y hy
   rw[h1.size,ho] at this
   simpa [List.getD,List.getElem?_take,hj,List.getElem?_drop] using this
  ·rw[List.getElem?_append_right (by rw[h1.len];exact hj),h1.len] at hy
   have:=b2 _ y hy
   rwa [show off+n1+(j-n1)=off+j by omega] at this⟩
theorem Opens.struct {n:Nat} {fs:Array Field} {α:Type} {f : α→List SV} {ok : α→Prop} (ht:P.underlying t=some (.struct fs)) (hc:P.cellsOf t=n) (h:OpensL P fs.toList 0 n f ok):Opens P t n f ok :=
 ⟨hc,h.len,fun enc w base sp held fuel cs x hx=>by
  obtain⟨xs,m,rfl,rfl,hl,hxs,hget⟩:=DataW.trod_struct ht hx
  obtain⟨a,a1,a2⟩:=h.opens enc w base sp held m cs (fun i fd hfd=>by
   have hi:=lt_of_get hfd
   have h1:=hget i fd (by simpa using hfd)
   rw[List.getElem?_eq_getElem (by rw[hxs];simpa using hi)] at h1
   exact⟨_,h1⟩)
  exact⟨a,a1,by rw[hl,hc,h.len],fun j y hy=>by simpa using a2 j y hy⟩⟩

/-! ### An argument -/
theorem Opens.one {n:Nat} {α:Type} {f : α→List SV} {ok : α→Prop} (h:Opens P t n f ok) {d:TypeDesc} (hu:P.underlying t=some d) (hd:(match d with | .struct _ | .array _ _=>true | _=>false)=false) (m : α→SV) (hm:∀a,f a=[m a])
  {H:Type} {enc:TypeId×Value→H} {w:World} {base b0:Nat} {sp:Nat→Bool} {held:Bool} {r:Reach} {v:Value} {dd:DataW H} {ps:List MemPlace} (hval:Value.okWide P w r b0 t v) (ht:DataW.Trod enc P w base sp held t v dd ps) :
  ∃a,ok a∧VR w (fun _=>False) noMp (m a) v:=by
 obtain⟨fuel,hf⟩:=ht
 obtain⟨a,h1,h2,h3⟩:=h.opens enc w base sp held fuel _ _ hf
 refine⟨a,h1,?_⟩
 have hv:v.cells = #[v]:=by
  unfold Value.okWide at hval
  rw[hu] at hval
  cases v with
  | agg xs=>cases d <;> simp_all [Cell.okWide,Cell.ok]
  | _=>rfl
 rw[hm] at h3
 have:=h3 0 (m a) rfl
 rw[hv] at this
 exact .one this
theorem Opens.agg {n:Nat} {α:Type} {f : α→List SV} {ok : α→Prop} (h:Opens P t n f ok) {d:TypeDesc} (hu:P.underlying t=some d) (hd:(match d with | .struct _ | .array _ _=>true | _=>false)=true)
  {H:Type} {enc:TypeId×Value→H} {w:World} {base b0:Nat} {sp:Nat→Bool} {held:Bool} {r:Reach} {v:Value} {dd:DataW H} {ps:List MemPlace} (hval:Value.okWide P w r b0 t v) (ht:DataW.Trod enc P w base sp held t v dd ps) :
  ∃a,ok a∧VR w (fun _=>False) noMp (.agg (f a)) v:=by
 obtain⟨fuel,hf⟩:=ht
 obtain⟨a,h1,h2,h3⟩:=h.opens enc w base sp held fuel _ _ hf
 refine⟨a,h1,?_⟩
 have hv:∃cs,v = .agg cs:=by
  unfold Value.okWide at hval
  rw[hu] at hval
  cases d <;> simp_all
  all_goals
   obtain⟨cs,rfl,_⟩:=hval
   exact⟨cs,rfl⟩
 obtain⟨cs,rfl⟩:=hv
 refine .agg (by simpa [Value.cells] using h2) (fun j y hy=>?_)
 have:=h3 j y hy
 simpa [Value.cells,List.getD,Array.getD_eq_getD_getElem?] using this
end

/-! ### The row's step -/
theorem trodAll_stays {H:Type} {enc:TypeId×Value→H} {P:Program} (hl:laidOutB P=true) {W W':World} (hb:Below W.heap.size W W') :
  ∀ {ts:List TypeId} {vs:List Value} {ds:List (DataW H)} {ps:List MemPlace},(∀t,t ∈ ts→P.readableRec t=true∧t < P.types.size)→(∀x,x ∈ ps→x.block < W.heap.size)→DataW.TrodAll enc P W 0 (fun _=>true) true ts vs ds ps→DataW.TrodAll enc P W' 0 (fun b=>decide (b < W.heap.size)) true ts vs ds ps
 | [],[],[],_,_,_,h=>h
 | t::ts,v::vs,d::ds,ps,hr,hlt,h=>by
  obtain⟨p,q,h1,h2,rfl⟩:=h
  exact⟨p,q,Below.trod hl (hr t (by simp)).1 (hr t (by simp)).2 h1 hb (fun x hx=>hlt x (by simp [hx])),trodAll_stays hl hb (fun t ht=>hr t (by simp [ht])) (fun x hx=>hlt x (by simp [hx])) h2,rfl⟩
 | [],_::_,_,_,_,_,h=>h.elim
 | [],[],_::_,_,_,_,h=>h.elim
 | _::_,[],_,_,_,_,h=>h.elim
 | _::_,_::_,[],_,_,_,h=>h.elim

theorem PC.row {P:Program} {f:FuncId} {fn:Func} {s:ChangeSpec} {ap fr hd:Bool} {ys:List SV} {W:World} {args:Array Value} {H:Type} {enc:TypeId×Value→H} {ds gs:List (DataW H)} {before:List MemPlace} {tb:TypeId}
  (hl:laidOutB P=true) (h:PC P false f ys (.v (.bool true))) (hn:args.size=ys.length) (hvr:∀(j:Nat) (y:SV),ys[j]?=some y→VR W (fun _=>False) noMp y (args.getD j undef))
  (hW:DataW.Whole enc P fn.params.toList s.vars ap W args.toList ds gs before) (hvars:s.vars=[]) (hfn:s.fn H (ds++gs) = { results:=[.lit (.bool true)],args:=ds })
  (hp:(fn.params.toList.all fun t=>P.readableRec t && Nat.blt t P.types.size)=true) (hrt:fn.resultTypes = #[tb]) (hb:P.underlying tb=some .bool) :
  Calls P f args W fun e W'=>∃v,e = .returned v∧s.post enc P fn ap fr hd false W args v W':=by
 refine(h.calls W (fun _=>False) args (fun g hg=>hg.elim) hn (fun j y hy=>?_)).mono ?_
 ·have:=hvr j y hy
  have e:(fun g:Nat=>false=true∧False)=fun _=>False:=by funext g;simp
  rw[e]
  exact this
 ·rintro e W' ⟨v,rfl,hB,m,_,_,_,hv⟩
  refine⟨v,rfl,?_⟩
  have hv':v = .bool true:=by
   have:VR W' _ m (.v (.bool true)) v:=hv
   cases this with
   | one h=>cases h;rfl
  subst hv'
  have hlt:=hW.lt
  obtain⟨p,q,hA,hV,rfl,hfz,hnd⟩:=id hW
  refine⟨ds,gs,p++q,[],p,[],hW,?_,?_,?_,hB.frame _,fun h=>by cases h⟩
  ·rw[hrt,hfn]
   refine trodAll_cons_mk (shut_bool hb true) trodAll_mk0
  ·rw[hfn]
   exact trodAll_stays hl hB (fun t ht=>by have:=List.all_eq_true.1 hp t ht;simp only[Bool.and_eq_true] at this;exact⟨this.1,Nat.le_of_ble_eq_true this.2⟩) (fun x hx=>hlt x (by simp [hx])) hA
  ·rw[hfn,hvars]
   exact rfl


theorem vrs_nil {w:World} {A:Nat→Prop} : ∀(j:Nat) (y:SV),([]:List SV)[j]?=some y→VR w A noMp y (([]:List Value).getD j undef):=fun j y h=>by simp at h
theorem vrs_cons {w:World} {A:Nat→Prop} {y:SV} {v:Value} {ys:List SV} {vs:List Value} (h:VR w A noMp y v) (hr:∀(j:Nat) (y:SV),ys[j]?=some y→VR w A noMp y (vs.getD j undef)) :
  ∀(j:Nat) (y':SV),(y::ys)[j]?=some y'→VR w A noMp y' ((v::vs).getD j undef)
 | 0,y',hy=>by
  simp at hy
  subst hy
  exact h
 | j+1,y',hy=>hr j y' (by simpa using hy)
theorem vrs_arr {w:World} {A:Nat→Prop} {ys:List SV} {vs:List Value} (h:∀(j:Nat) (y:SV),ys[j]?=some y→VR w A noMp y (vs.getD j undef)):∀(j:Nat) (y:SV),ys[j]?=some y→VR w A noMp y (vs.toArray.getD j undef):=fun j y hy=>by
 have:=h j y hy
 rwa [Array.getD_eq_getD_getElem?,List.getElem?_toArray]

theorem ExtR.own' {hp:Nat→Option Blk} {b off len sz:Nat} {xs ys:List SV} (h:hp b=some (.arr false sz xs)) (hle:off+len≤xs.length) (hy:(xs.drop off).take len=ys):ExtR hp (.own b off len) (.lst ys):=hy ▸ .own h hle

end Go.Sh
