/- Stores, appends, new slices and structs: the shadow's and the model's. -/
import Derived.Test.YtlfpkjlaajfjnaaSh4
import Derived.Laws.Append
set_option linter.unusedVariables false
set_option linter.unusedSimpArgs false
namespace Go.Sh
open Go.RowKit

theorem OwnP.congr {h h':Hp} (he:∀b,hlook b h'=hlook b h) (m:Mp):OwnP h' m=OwnP h m:=by
 funext g
 unfold OwnP
 simp only[he]

theorem RelM.congr {cx:Cx} {m:Mp} {st:St} {a:Act} {w:World} {h':Hp} {al':List Nat} (h:RelM cx m st a w) (he:∀b,hlook b h'=hlook b st.heap) (hal:∀b,b ∈ st.al→b ∈ al') :
  RelM cx m { st with heap:=h',al:=al' } a w:=by
 have e:=OwnP.congr he m
 exact {
  below:=h.below,basele:=h.basele,bsmall:=h.bsmall,pin:=h.pin,defs:=h.defs,size:=h.size
  env:=fun t x hx=>by have:=h.env t x hx;rwa [← e] at this
  dom:=fun b p hp=>⟨(h.dom b p hp).1.imp id (hal b),(h.dom b p hp).2⟩
  hnx:=fun b x hx=>by rw[he] at hx;exact(h.hnx b x hx).imp id (hal b)
  inj:=fun b b' x y g s s' h1 h2=>by rw[he] at h1 h2;exact h.inj b b' x y g s s' h1 h2
  hp:=fun b x hx=>by rw[he] at hx;have:=h.hp b x hx;rwa [← e] at this }

theorem RelM.drop {cx:Cx} {m:Mp} {st:St} {a:Act} {w:World} (h:RelM cx m st a w) (b:Nat):RelM cx m { st with heap:=(b,none)::st.heap } a w ∧
  ∀y v,VR w (AOf cx st.heap m) m y v→VR w (AOf cx ((b,none)::st.heap) m) m y v:=by
 have look':∀c y,hlook c ((b,none)::st.heap)=some y→c ≠ b∧hlook c st.heap=some y:=by
  intro c y hy
  by_cases hc:c=b
  ·subst hc;unfold hlook at hy;rw[look_cons,if_pos rfl] at hy;cases hy
  ·refine⟨hc,?_⟩;unfold hlook at hy ⊢;rwa [look_cons,if_neg hc] at hy
 have hA:∀k,AOf cx ((b,none)::st.heap) m k→AOf cx st.heap m k∨w.heap.size≤k:=by
  rintro k (hk | ⟨c,y,s',hy,hs⟩)
  ·exact .inl (.inl hk)
  ·exact .inl (.inr ⟨c,y,s',(look' c y hy).2,hs⟩)
 refine⟨?_,fun y v hv=>hv.mono (fun _ _ _=>rfl) hA (fun _ _ h=>h) (fun _ _ h=>h)⟩
 refine h.change (heap':=(b,none)::st.heap) (al':=st.al) (BelowE.refl _ _ _) (fun _ _ _=>rfl) hA (fun _ _ h=>h) (fun _ _ h=>h) (fun _ _=>rfl) h.dom ?_ ?_ ?_
 ·exact fun c y hy=>h.hnx c y (look' c y hy).2
 ·exact fun c c' y y' k s s' h1 h2=>h.inj c c' y y' k s s' (look' c y h1).2 (look' c' y' h2).2
 ·exact fun c y hy=>(h.hp c y (look' c y hy).2).mono rfl (fun _ _ _=>rfl) hA (fun _ _ h=>h) (fun _ _ h=>h) (fun _ _ _=>rfl)

theorem RelM.empty {cx:Cx} {m:Mp} {st:St} {a:Act} {w:World} (h:RelM cx m st a w) {id:Nat} (hf:Fresh st id) (d:Bool) {sz:Nat} (hs:0 < sz) :
  RelM cx m { st with heap:=(id,some (.arr d sz []))::st.heap,al:=id::st.al } a w ∧
   ∀y v,VR w (AOf cx st.heap m) m y v→VR w (AOf cx ((id,some (.arr d sz []))::st.heap) m) m y v:=by
 have hmid:m id=none:=by
  cases hq:m id with
  | none=>rfl
  | some q=>exact absurd (h.dom id q hq).1 hf
 have look':∀c y,hlook c ((id,some (.arr d sz []))::st.heap)=some y→(c=id∧y = .arr d sz [])∨(c ≠ id∧hlook c st.heap=some y):=by
  intro c y hy
  unfold hlook at hy ⊢
  by_cases hc:c=id
  ·rw[look_cons,if_pos hc] at hy;exact .inl ⟨hc,(Option.some.inj hy).symm⟩
  ·rw[look_cons,if_neg hc] at hy;exact .inr ⟨hc,hy⟩
 have hA:∀k,AOf cx ((id,some (.arr d sz []))::st.heap) m k→AOf cx st.heap m k∨w.heap.size≤k:=by
  rintro k (hk | ⟨c,y,s',hy,hs⟩)
  ·exact .inl (.inl hk)
  ·rcases look' c y hy with⟨rfl,_⟩ | ⟨_,h2⟩
   ·rw[hmid] at hs;cases hs
   ·exact .inl (.inr ⟨c,y,s',h2,hs⟩)
 refine⟨?_,fun y v hv=>hv.mono (fun _ _ _=>rfl) hA (fun _ _ h=>h) (fun _ _ h=>h)⟩
 refine h.change (BelowE.refl _ _ _) (fun _ _ _=>rfl) hA (fun _ _ h=>h) (fun _ _ h=>h) (fun _ _=>rfl) (fun b p hp=>⟨(h.dom b p hp).1.imp _root_.id (List.mem_cons_of_mem _),(h.dom b p hp).2⟩) ?_ ?_ ?_
 ·intro c y hy
  rcases look' c y hy with⟨rfl,_⟩ | ⟨_,h2⟩
  ·exact .inr List.mem_cons_self
  ·exact(h.hnx c y h2).imp _root_.id (List.mem_cons_of_mem _)
 ·intro c c' y y' k s1 s2 h1 h2 h3 h4
  rcases look' c y h1 with⟨rfl,_⟩ | ⟨_,h5⟩
  ·rw[hmid] at h3;cases h3
  ·rcases look' c' y' h2 with⟨rfl,_⟩ | ⟨_,h6⟩
   ·rw[hmid] at h4;cases h4
   ·exact h.inj c c' y y' k s1 s2 h5 h6 h3 h4
 ·intro c y hy
  rcases look' c y hy with⟨rfl,rfl⟩ | ⟨_,h2⟩
  ·exact⟨hs,.inl ⟨hmid,rfl⟩⟩
  ·exact(h.hp c y h2).mono rfl (fun _ _ _=>rfl) hA (fun _ _ h=>h) (fun _ _ h=>h) (fun _ _ _=>rfl)

theorem RelM.drew {cx:Cx} {m:Mp} {st:St} {a:Act} {w:World} (h:RelM cx m st a w):RelM cx m st a w.drew:=h.grow ((Below.refl _ w).drew)

theorem spl_getD (C:Array Value) (o:Nat) (vs:List Value) (k:Nat) (h:o+vs.length≤C.size) :
  (spl C o vs).getD k undef=if o≤k∧k < o+vs.length then vs.getD (k-o) undef else C.getD k undef:=spl_get vs C o k h

theorem setCells_updRow (g:Nat) (e:TypeId):∀(vs:List Value) (w:World) (o:Nat) (C:Array Value),w.heap[g]?=some (.cells C e (0,0))→w.setCells g o vs=updRow w g (.cells (spl C o vs) e (0,0))
 | [],w,o,C,h=>by rw[World.setCells,spl,updRow_same _ _ _ h]
 | v::vs,w,o,C,h=>by
  rw[World.setCells,setCell_updRow w g o C e (0,0) v h,setCells_updRow g e vs _ (o+1) _ (updRow_self w h),updRow_updRow];rfl

section
variable {P:Program} {cx:Cx} {m:Mp} {st:St} {a:Act} {w:World} {hp:Nat→Option Blk}

def Adds (P:Program) (w:World) (A:Nat→Prop) (m:Mp) (sz:Nat) (tx:TypeId) (v:Value) (ys:List SV):Prop :=
 ∃news,Src P sz tx v ys.length news w∧(∀y,y ∈ ys→y.cells.length=sz)∧∀(i:Nat) (y:SV) (j:Nat) (z:SV),ys[i]?=some y→y.cells[j]?=some z→OneR w A m z (news.getD (i * sz+j) undef)

theorem oneCell'_of_one {u:Value} (h:one u=true):u.oneCell'=true:=by cases u <;> simp_all [one,Value.oneCell']
theorem adds_cells {A:Nat→Prop} {m:Mp} {sz:Nat} {tx e:TypeId} (hk:P.underlying tx=some (.slice e)) (g o c:Nat) (ys:List SV) (hp:0 < sz) (hl:∀y,y ∈ ys→y.cells.length=sz) (C:Nat→Nat→Value)
  (hc:∀(i:Nat) (y:SV) (j:Nat) (z:SV),ys[i]?=some y→y.cells[j]?=some z→w.cell? ⟨g,o+(i * sz+j),none⟩=some (C i j)∧OneR w A m z (C i j)) :
  Adds P w A m sz tx (.slice (some ⟨g,o,none⟩) ys.length c) ys:=by
 have key:∀k,k < ys.length * sz→∃y z,ys[k / sz]?=some y∧y.cells[k % sz]?=some z:=by
  intro k hk
  have h1:k / sz < ys.length:=Nat.div_lt_of_lt_mul (by rw[Nat.mul_comm];exact hk)
  have h2:k % sz < ys[k / sz].cells.length:=by rw[hl _ (List.getElem_mem h1)];exact Nat.mod_lt _ hp
  exact⟨ys[k / sz],ys[k / sz].cells[k % sz],by simp [h1],by simp [h2]⟩
 have split:∀k,k / sz * sz+k % sz=k:=fun k=>by rw[Nat.mul_comm];exact Nat.div_add_mod k sz
 refine⟨(List.range (ys.length * sz)).map fun k=>C (k / sz) (k % sz),Src.ofSlice w hk ⟨g,o,none⟩ ys.length c _ (by simp) ?_ ?_,hl,?_⟩
 ·intro j u hu
  simp only[List.getElem?_map,Option.map_eq_some_iff] at hu
  obtain⟨k,hk,rfl⟩:=hu
  have hlt:j < ys.length * sz:=by
   rcases Nat.lt_or_ge j (ys.length * sz) with h' | h'
   ·exact h'
   ·rw[List.getElem?_eq_none (by simpa using h')] at hk;cases hk
  rw[List.getElem?_range hlt] at hk
  simp only[Option.some.injEq] at hk
  subst hk
  obtain⟨y,z,h1,h2⟩:=key j hlt
  have:=(hc _ y _ z h1 h2).1
  rw[split] at this
  rw[add_none]
  exact this
 ·intro u hu
  simp only[List.mem_map,List.mem_range] at hu
  obtain⟨k,hk,rfl⟩:=hu
  obtain⟨y,z,h1,h2⟩:=key k hk
  exact oneCell'_of_one (hc _ y _ z h1 h2).2.isOne
 ·intro i y j z hy hz
  have hi:i < ys.length:=by
   rcases Nat.lt_or_ge i ys.length with h' | h'
   ·exact h'
   ·rw[List.getElem?_eq_none h'] at hy;cases hy
  have hj:j < sz:=by
   rw[← hl y (List.mem_of_getElem? hy)]
   rcases Nat.lt_or_ge j y.cells.length with h' | h'
   ·exact h'
   ·rw[List.getElem?_eq_none h'] at hz;cases hz
  have hlt:i * sz+j < ys.length * sz:=by
   have:i * sz+sz≤ys.length * sz:=by rw[← Nat.succ_mul];exact Nat.mul_le_mul_right _ hi
   omega
  have e1:(i * sz+j) / sz=i:=by rw[Nat.mul_comm,Nat.mul_add_div hp,Nat.div_eq_of_lt hj];omega
  have e2:(i * sz+j) % sz=j:=by rw[Nat.mul_comm,Nat.mul_add_mod,Nat.mod_eq_of_lt hj]
  have:((List.range (ys.length * sz)).map fun k=>C (k / sz) (k % sz)).getD (i * sz+j) undef=C i j:=by
   simp [List.getD,hlt,e1,e2]
  rw[this]
  exact(hc i y j z hy hz).2

theorem adds_nil {A:Nat→Prop} {m:Mp} {sz:Nat} {tx e:TypeId} (hk:P.underlying tx=some (.slice e)) (c:Nat) (base:Option Addr):Adds P w A m sz tx (.slice base 0 c) []:=by
 refine⟨[],Src.mk (.inl ⟨e,hk⟩) (fun _=>rfl) ?_ ?_ (by simp) (fun _ h=>by cases h),(fun _ h=>by cases h),(fun i y j z hy _=>by simp at hy)⟩
 ·cases base with
  | none=>exact run_firstCells_none w sz 0 0 c
  | some b=>exact run_firstCells_some w sz 0 b 0 c [] (by simp) (fun j v hv=>by simp at hv)
 ·cases base with
  | none=>exact run_firstCells_none w.drew sz 0 0 c
  | some b=>exact run_firstCells_some w.drew sz 0 b 0 c [] (by simp) (fun j v hv=>by simp at hv)

def bytesSV (s:ByteArray):List SV:=s.data.toList.map fun b => .v (.int .u8 (b.toNat:Int))

theorem adds_string {A:Nat→Prop} {m:Mp} {tx:TypeId} (hk:P.underlying tx=some .string) (s:ByteArray):Adds P w A m 1 tx (.string s) (bytesSV s):=by
 have hl:(bytesSV s).length=s.size:=by unfold bytesSV;rw[List.length_map,Array.length_toList];rfl
 refine⟨byteCells s,by rw[hl];exact Src.ofString w hk s,?_,?_⟩
 ·intro y hy
  obtain⟨b,_,rfl⟩:=List.mem_map.1 hy
  rfl
 ·intro i y j z hy hz
  simp only[bytesSV,List.getElem?_map,Option.map_eq_some_iff] at hy
  obtain⟨b,hb,rfl⟩:=hy
  cases j with
  | succ j=>simp [SV.cells] at hz
  | zero =>
   simp only[SV.cells,List.getElem?_cons_zero,Option.some.injEq] at hz
   subst hz
   have:(byteCells s).getD (i * 1+0) undef = .int .u8 (b.toNat:Int):=by
    simp [byteCells,List.getD,hb]
   rw[this]
   exact .v rfl

inductive SrcS (P:Program) (hp:Nat→Option Blk) (sz:Nat) (d:Bool) (tx:TypeId):SV→List SV→Prop where
 | lst {e:TypeId} {ys:List SV} (hk:P.underlying tx=some (.slice e)) (hl:∀y,y ∈ ys→y.cells.length=sz):SrcS P hp sz d tx (.lst ys) ys
 | own {e:TypeId} {b off len:Nat} {d':Bool} {xs ys:List SV} (hk:P.underlying tx=some (.slice e)) (hb:hp b=some (.arr d' sz xs)) (hle:off+len≤xs.length) (hy:(xs.drop off).take len=ys) (hd:d'=true→d=true):SrcS P hp sz d tx (.own b off len) ys
 | nil {e:TypeId} (hk:P.underlying tx=some (.slice e)):SrcS P hp sz d tx (.v (.slice none 0 0)) []
 | str {s:ByteArray} (hk:P.underlying tx=some .string) (h1:sz=1):SrcS P hp sz d tx (.v (.string s)) (bytesSV s)

theorem SrcS.adds (h:RelM cx m st a w) (hhp:∀b x,hp b=some x→hlook b st.heap=some x) {sz:Nat} (hpos:0 < sz) {d:Bool} {tx:TypeId} {x:SV} {ys:List SV} {v:Value} (hs:SrcS P hp sz d tx x ys)
  (hv:OneR w (AOf cx st.heap m) m x v):Adds P w (AOf cx st.heap m) (if d then m else noMp) sz tx v ys:=by
 cases hs with
 | lst hk hl =>
  cases hv with
  | nil=>exact adds_nil hk _ _
  | lst C hc hp' hl' hm hr =>
   rename_i blk off c sz'
   rcases Nat.eq_zero_or_pos ys.length with h0 | h0
   ·have:ys=[]:=List.length_eq_zero_iff.1 h0
    subst this
    exact adds_nil hk _ _
   ·obtain⟨y,hy⟩:∃y,y ∈ ys:=⟨ys[0],List.getElem_mem h0⟩
    obtain rfl:sz'=sz:=by rw[← hl y hy,hl' y hy]
    refine adds_cells hk blk off c ys hpos hl C fun i y j z hy hz=>⟨(hm i y j z hy hz).2,(hr i y j z hy hz).pure _ (fun _ h=>h) (fun _ _ h=>by cases h)⟩
 | own hk hb hle hy hd =>
  rename_i e b off len d' xs
  have hl:ys.length=len:=by rw[← hy,List.length_take,List.length_drop];omega
  cases hv with
  | own0 hz =>
   have:ys=[]:=List.length_eq_zero_iff.1 (by omega)
   subst this hz
   exact adds_nil hk _ _
  | own hm hn hc hcap =>
   rename_i g s cap n
   obtain⟨rfl,hp',C,e',h2,h3,h4,h5⟩:=(h.hp b _ (hhp b _ hb)).cell hm
   have key:∀(i:Nat) (y:SV),ys[i]?=some y→xs[off+i]?=some y:=by
    intro i y hy'
    rw[← hy,List.getElem?_take] at hy'
    split at hy'
    ·rwa [List.getElem?_drop] at hy'
    ·cases hy'
   rw[← hl]
   refine adds_cells hk g (off * s) cap ys hpos (fun y hy'=>h4 y (by rw[← hy] at hy';exact List.mem_of_mem_drop (List.mem_of_mem_take hy'))) (fun i j=>C.getD ((off+i) * s+j) undef) ?_
   intro i y j z hy' hz
   obtain⟨h6,h7⟩:=h5 (off+i) y j z (key i y hy') hz
   refine⟨by rw[show off * s+(i * s+j)=(off+i) * s+j by rw[Nat.add_mul];omega];exact h6,?_⟩
   cases d'
   ·exact h7.pure _ (fun _ h=>h) (fun _ _ h=>by cases h)
   ·rw[hd rfl];exact h7
 | nil hk=>cases hv with | v _=>exact adds_nil hk _ _
 | str hk h1=>subst h1;cases hv with | v _=>exact adds_string hk _

end
end Go.Sh
