/- Operations on lists that are maps of plain values; a result given up for reading. -/
import Derived.Test.YtlfpkjlaajfjnaaShJ
set_option linter.unusedVariables false
set_option linter.unusedSimpArgs false
namespace Go.Sh
open Go.RowKit

def Bnd (E:Operand→SV) (o:Option Operand) (d i:Int):Prop :=
 match o with
 | none=>i=d
 | some x=>∃k,E x = .v (.int k i)

structure Enc {α:Type} (f : α→SV) (sz:Nat):Prop where
 out:∀a,(f a).solid=true∧(f a).cells.length=sz∧roC (f a)=true
theorem Enc.mem {α:Type} {f : α→SV} {sz:Nat} (h:Enc f sz) (l:List α):∀y,y ∈ l.map f→y.solid=true∧y.cells.length=sz∧roC y=true:=by
 intro y hy
 obtain⟨a,_,rfl⟩:=List.mem_map.1 hy
 exact h.out a

section
variable {P:Program} {E:Operand→SV} {hp:Nat→Option Blk} {id:Nat} {α:Type} {f : α→SV} {t e tx:TypeId} {sz:Nat} {x y ix:Operand} {ts:Array TypeId} {k:IntKind} {i:Int} {b:Nat} {d:Bool} {l m:List α} {u:SV}

theorem Op1.lenLm (hS:P.underlying t=some (.slice e)) (hx:E x = .lst (l.map f)) (ht:ts[0]?=some t):Op1 P E hp id (.call ⟨.builtin .len,#[x],ts⟩) (.v (.int .i64 (l.length:Int))) []:=by
 have:=Op1.lenL (hp:=hp) (id:=id) hS hx ht
 rwa [List.length_map] at this
theorem Op1.idxLm {z : α} (hS:Sl P t e sz) (hx:E x = .lst (l.map f)) (hi:E ix = .v (.int k i)) (h:idx l i=some z) (hf:Enc f sz):Op1 P E hp id (.indexAddr t x ix) (.rptr (f z).cells) [] :=
 .idxL hS hx hi (ixs h).1 (ixm (ixs h).2.1) (hf.out z).2.1
theorem Op1.idxOm {len:Nat} {xs:List SV} (hS:Sl P t e sz) (hx:E x = .own b 0 len) (hb:hp b=some (.arr d sz xs)) (hi:E ix = .v (.int k i)) (h0:0≤i) (hl:i < (len:Int)):Op1 P E hp id (.indexAddr t x ix) (.eptr b i.toNat 0) []:=by
 have:=Op1.idxO (id:=id) hS hx hb hi h0 hl
 rwa [Nat.zero_add] at this
theorem Op1.loadEm {s j off:Nat} {agg:Bool} {z : α} {r:SV} (hT:Ty P t sz agg) (hx:E x = .eptr b j off) (hb:hp b=some (.arr d s (l.map f))) (hy:l[j]?=some z) (hr:ldF agg sz (f z).cells off=some r):Op1 P E hp id (.load t x) r [] :=
 .loadE hT hx hb (by simp [hy]) hr
theorem Op1.storeEv {s j off:Nat} {agg:Bool} {z z' : α} (hT:Ty P t sz agg) (hx:E x = .eptr b j off) (hy:StV (E y) u) (hs:u.solid=true) (hl:u.cells.length=sz) (hb:hp b=some (.arr d s (l.map f))) (hz:l[j]?=some z) (ho:Nat.ble (off+sz) (f z).cells.length=true)
  (hro:d=false→roC u=true) (he:reC (f z) (splL (f z).cells off u.cells)=f z'):Op1 P E hp id (.store t x y) .junk [(b,some (.arr d s ((l.set j z').map f)))]:=by
 have:=Op1.storeE (id:=id) hT hx hy hs hl hb (u:=f z) (by simp [hz]) (Nat.le_of_ble_eq_true ho) hro
 rwa [he,← List.map_set] at this
theorem Op1.storeEm {s j off:Nat} {agg:Bool} {z z' : α} (hT:Ty P t sz agg) (hx:E x = .eptr b j off) (hy:E y=u) (hs:u.solid=true) (hl:u.cells.length=sz) (hb:hp b=some (.arr d s (l.map f))) (hz:l[j]?=some z) (ho:Nat.ble (off+sz) (f z).cells.length=true)
  (hro:d=false→roC u=true) (he:reC (f z) (splL (f z).cells off u.cells)=f z'):Op1 P E hp id (.store t x y) .junk [(b,some (.arr d s ((l.set j z').map f)))]:=Op1.storeEv hT hx (.inl hy) hs hl hb hz ho hro he
theorem SrcS.lstm (hk:P.underlying tx=some (.slice e)) (hf:Enc f sz):SrcS P hp sz d tx (.lst (m.map f)) (m.map f) := .lst hk fun y hy=>(hf.mem m y hy).2.1
theorem SrcS.ownm {d':Bool} (hk:P.underlying tx=some (.slice e)) (hb:hp b=some (.arr d' sz (m.map f))) (hd:d'=true→d=true):SrcS P hp sz d tx (.own b 0 m.length) (m.map f) :=
 .own hk hb (by simp) (by rw[List.drop_zero,List.take_of_length_le (by simp)]) hd
theorem Op1.appOm (hS:Sl P t e sz) (hx:E x = .own b 0 l.length) (hb:hp b=some (.arr d sz (l.map f))) (hy:E y=u) (hs:SrcS P hp sz d tx u (m.map f)) (ht:ts = #[t,tx]) (hN:decide (l.length+m.length≤4294967296)=true) :
  Op1 P E hp id (.call ⟨.builtin .append,#[x,y],ts⟩) (.own id 0 (l++m).length) [(id,some (.arr d sz ((l++m).map f))),(b,none)]:=by
 have:=Op1.appO (id:=id) hS hx hb (by rw[List.length_map];exact Nat.le_refl _) (xs':=l.map f) (List.take_of_length_le (by rw[List.length_map];exact Nat.le_refl _)) hy hs ht (by rw[List.length_map];exact of_decide_eq_true hN)
 rwa [← List.map_append,List.length_map,← List.length_append] at this
theorem Op1.bslicem {len:Nat} {parts:Array (Nat×Operand)} (hS:Sl P t e sz) (hix:parts.toList.map (·.1)=List.range' 0 len) (hlen:l.length=len) (hys:(parts.toList.map fun p=>E p.2)=l.map f) (hf:Enc f sz) (hlim:Nat.ble (len * sz) 16777216=true) :
  Op1 P E hp id (.buildSlice t len parts) (.own id 0 l.length) [(id,some (.arr d sz (l.map f)))]:=by
 subst hlen
 exact Op1.bslice hS hix hys (fun y hy=>⟨(hf.mem l y hy).1,(hf.mem l y hy).2.1,fun _=>(hf.mem l y hy).2.2⟩) (Nat.le_of_ble_eq_true hlim)
theorem OptB.of {o:Option Operand} {dflt:Nat} {i:Int} (h:Bnd E o (dflt:Int) i) (h0:0≤i):OptB E o dflt i.toNat:=by
 cases o with
 | none=>simp only[Bnd] at h;subst h;simp [OptB]
 | some x=>obtain⟨k,h⟩:=h;exact⟨k,i,h,by omega⟩
end

/-! ### A result is given up for reading -/
def frz1:SV→SV
 | .frs _ xs => .lst xs
 | x=>x
def frzC:SV→SV
 | .agg cs => .agg (cs.map frz1)
 | x=>frz1 x
def frzT:SV→SV
 | .tup xs => .tup (xs.map frzC)
 | x=>frzC x

section
variable {w:World} {A B:Nat→Prop} {m:Mp}
theorem frz1_sound {n:Nat} {x:SV} (hx:shut1 x=true) (hb:∀(k:Nat) (X:Blk),(imp1 n x).2[k]?=some X→BlkR w A m (n+k) X) (hB:∀g,B g→A g) (hAB:∀b g s,m b=some (g,s)→¬B g) {v:Value} (h:OneR w A m (imp1 n x).1 v):OneR w B noMp (frz1 x) v:=by
 cases x with
 | frs sz xs =>
  have hb0:=hb 0 _ rfl
  simp only[imp1] at h
  have hb0:BlkR w A m n (.arr false sz xs):=hb0
  cases h with
  | own hm hn hc hcap =>
   rename_i g s cap k
   have hng:=hAB _ _ _ hm
   obtain⟨rfl,hp,C,e,h2,h3,h4,h5⟩:=hb0.cell hm
   refine .lst (off:=0 * s) (sz:=s) (fun i j=>C.getD (i * s+j) undef) hcap hp h4 ?_ ?_
   ·intro i x j y hx hy
    refine⟨hng,?_⟩
    rw[show 0 * s+(i * s+j)=i * s+j by omega]
    exact(h5 i x j y hx hy).1
   ·exact fun i x j y hx hy=>(h5 i x j y hx hy).2.pure _ hB (fun _ _ h=>h)
  | own0 hz =>
   have:xs=[]:=List.length_eq_zero_iff.1 hz
   subst this
   exact .nil
 | v u=>simp only[imp1] at h;cases h with | v h=>exact .v h
 | lst xs=>exact ro1_sound rfl (h.pure B hB (fun _ _ h=>h))
 | rptr cs=>exact ro1_sound rfl (h.pure B hB (fun _ _ h=>h))
 | mp l=>exact ro1_sound rfl (h.pure B hB (fun _ _ h=>h))
 | omp=>simp [shut1] at hx
 | bnd=>simp [shut1] at hx
 | clo f cs =>
  cases cs with
  | nil=>exact ro1_sound rfl (h.pure B hB (fun _ _ h=>h))
  | cons=>simp [shut1] at hx
 | junk=>simp only[imp1] at h;cases h
 | agg=>simp [shut1] at hx
 | tup=>simp [shut1] at hx
 | own=>simp [shut1] at hx
 | ptr=>simp [shut1] at hx
 | eptr=>simp [shut1] at hx

theorem frzL_sound {R R':SV→Value→Prop} {f:Nat→SV→SV×List Blk} {fz:SV→SV} {ok:SV→Bool}
  (hf:∀n x v,ok x=true→(∀(k:Nat) (X:Blk),(f n x).2[k]?=some X→BlkR w A m (n+k) X)→R (f n x).1 v→R' (fz x) v):∀(xs:List SV) (n:Nat),xs.all ok=true→(∀(k:Nat) (X:Blk),(impL f n xs).2[k]?=some X→BlkR w A m (n+k) X) →
   ∀F:Nat→Value,(∀(j:Nat) (y:SV),(impL f n xs).1[j]?=some y→R y (F j))→∀(j:Nat) (y:SV),(xs.map fz)[j]?=some y→R' y (F j)
 | [],_,_,_,_,_,j,y,hy=>by simp at hy
 | x::xs,n,ho,hb,F,hF,j,y,hy=>by
  simp only[List.all_cons,Bool.and_eq_true] at ho
  cases j with
  | zero =>
   simp only[List.map_cons,List.getElem?_cons_zero,Option.some.injEq] at hy
   subst hy
   refine hf n x _ ho.1 (fun k X hX=>hb k X ?_) (hF 0 _ rfl)
   have hk:=lt_of_get hX
   simp only[impL]
   rw[List.getElem?_append_left hk]
   exact hX
  | succ j =>
   refine frzL_sound hf xs (n+(f n x).2.length) ho.2 (fun k X hX=>?_) (fun j=>F (j+1)) (fun j y h=>hF (j+1) y h) j y (by simpa using hy)
   have:=hb ((f n x).2.length+k) X (by
    simp only[impL]
    rw[List.getElem?_append_right (by omega),show(f n x).2.length+k-(f n x).2.length=k by omega]
    exact hX)
   rwa [← Nat.add_assoc] at this

theorem frzC_sound {n:Nat} {x:SV} (hx:shutC x=true) (hb:∀(k:Nat) (X:Blk),(impC n x).2[k]?=some X→BlkR w A m (n+k) X) (hB:∀g,B g→A g) (hAB:∀b g s,m b=some (g,s)→¬B g) {v:Value} (h:VR w A m (impC n x).1 v):VR w B noMp (frzC x) v:=by
 have base:∀x,shut1 x=true→(∀(k:Nat) (X:Blk),(imp1 n x).2[k]?=some X→BlkR w A m (n+k) X)→VR w A m (imp1 n x).1 v→VR w B noMp (frz1 x) v:=by
  intro x hx hb h
  generalize hq:(imp1 n x).1=q at h
  cases h with
  | one h=>subst hq;exact .one (frz1_sound hx hb hB hAB h)
  | agg hl h=>cases x <;> simp [imp1,shut1] at hq hx
  | tup hl h=>cases x <;> simp [imp1,shut1] at hq hx
  | junk=>cases x <;> simp [imp1] at hq;exact .junk
 cases x with
 | agg cs =>
  simp only[impC] at h
  cases h with
  | one h=>cases h
  | agg hl h =>
   rename_i vs
   have hlen:∀(xs:List SV) (n:Nat),(impL imp1 n xs).1.length=xs.length:=by
    intro xs
    induction xs with
    | nil=>intro n;rfl
    | cons x xs ih=>intro n;simp [impL,ih]
   refine .agg (by rw[hl,hlen];simp) ?_
   exact frzL_sound (R:=OneR w A m) (R':=OneR w B noMp) (fz:=frz1) (ok:=shut1) (fun n x v ho hb h=>frz1_sound ho hb hB hAB h) cs n (by simpa [shutC] using hx) hb (fun j=>vs.getD j undef) h
 | v u=>exact base (.v u) hx hb h
 | lst xs=>exact base (.lst xs) hx hb h
 | rptr cs=>exact base (.rptr cs) hx hb h
 | mp l=>exact base (.mp l) hx hb h
 | omp=>simp [shutT,shutC,shut1] at hx
 | bnd=>simp [shutT,shutC,shut1] at hx
 | own=>simp [shutT,shutC,shut1] at hx
 | ptr=>simp [shutT,shutC,shut1] at hx
 | eptr=>simp [shutT,shutC,shut1] at hx
 | clo f cs=>exact base (.clo f cs) hx hb h
 | tup=>simp [shutC,shut1] at hx
 | frs sz xs=>exact base (.frs sz xs) hx hb h
 | junk=>exact base .junk hx hb h

theorem frzT_sound {x:SV} (hx:shutT x=true) (hb:∀(k:Nat) (X:Blk),(impT 0 x).2[k]?=some X→BlkR w A m k X) (hB:∀g,B g→A g) (hAB:∀b g s,m b=some (g,s)→¬B g) {v:Value} (h:VR w A m (impT 0 x).1 v):VR w B noMp (frzT x) v:=by
 have base:∀x,shutC x=true→(∀(k:Nat) (X:Blk),(impC 0 x).2[k]?=some X→BlkR w A m k X)→VR w A m (impC 0 x).1 v→VR w B noMp (frzC x) v:=fun x hx hb h=>frzC_sound hx (fun k X hX=>by rw[Nat.zero_add];exact hb k X hX) hB hAB h
 cases x with
 | tup xs =>
  simp only[impT] at h
  cases h with
  | one h=>cases h
  | tup hl h =>
   rename_i vs
   have hlen:∀(xs:List SV) (n:Nat),(impL impC n xs).1.length=xs.length:=by
    intro xs
    induction xs with
    | nil=>intro n;rfl
    | cons x xs ih=>intro n;simp [impL,ih]
   refine .tup (by rw[hl,hlen];simp) ?_
   exact frzL_sound (R:=VR w A m) (R':=VR w B noMp) (fz:=frzC) (ok:=shutC) (fun n x v ho hb h=>frzC_sound ho hb hB hAB h) xs 0 (by simpa [shutT] using hx) (fun k X hX=>by rw[Nat.zero_add];exact hb k X hX) (fun j=>vs.getD j undef) h
 | v u=>exact base (.v u) hx hb h
 | lst xs=>exact base (.lst xs) hx hb h
 | rptr cs=>exact base (.rptr cs) hx hb h
 | mp l=>exact base (.mp l) hx hb h
 | omp=>simp [shutT,shutC,shut1] at hx
 | bnd=>simp [shutT,shutC,shut1] at hx
 | own=>simp [shutT,shutC,shut1] at hx
 | ptr=>simp [shutT,shutC,shut1] at hx
 | eptr=>simp [shutT,shutC,shut1] at hx
 | clo f cs=>exact base (.clo f cs) hx hb h
 | agg cs=>exact base (.agg cs) hx hb h
 | frs sz xs=>exact base (.frs sz xs) hx hb h
 | junk=>exact base .junk hx hb h
end

theorem frz1_ro (x:SV) (h:shut1 x=true):shut1 (frz1 x)=true∧∀n,imp1 n (frz1 x)=(frz1 x,[]):=by
 cases x <;> first | exact⟨rfl,fun _=>rfl⟩ | exact⟨h,fun _=>rfl⟩
theorem impL_none {f:Nat→SV→SV×List Blk} : ∀(xs:List SV) (n:Nat),(∀x,x ∈ xs→∀n,f n x=(x,[]))→impL f n xs=(xs,[])
 | [],_,_=>rfl
 | x::xs,n,h=>by
  have h1:=h x List.mem_cons_self n
  simp only[impL,h1]
  rw[impL_none xs _ (fun y hy=>h y (List.mem_cons_of_mem _ hy))]
  rfl
theorem frzC_ro (x:SV) (h:shutC x=true):shutC (frzC x)=true∧∀n,impC n (frzC x)=(frzC x,[]):=by
 cases x with
 | agg cs =>
  have hi:=List.all_eq_true.1 (show cs.all shut1=true from h)
  refine⟨?_,fun n=>?_⟩
  ·show(cs.map frz1).all shut1=true
   rw[List.all_eq_true]
   intro y hy
   obtain⟨z,hz,rfl⟩:=List.mem_map.1 hy
   exact(frz1_ro z (hi z hz)).1
  ·show(SV.agg (impL imp1 n (cs.map frz1)).1,(impL imp1 n (cs.map frz1)).2)=_
   rw[impL_none]
   ·rfl
   ·intro y hy
    obtain⟨z,hz,rfl⟩:=List.mem_map.1 hy
    exact(frz1_ro z (hi z hz)).2
 | tup=>simp [shutC,shut1] at h
 | _=>first | exact⟨rfl,fun _=>rfl⟩ | exact⟨h,fun _=>rfl⟩
theorem frzT_ro (x:SV) (h:shutT x=true):shutT (frzT x)=true∧impT 0 (frzT x)=(frzT x,[]):=by
 cases x with
 | tup cs =>
  have hi:=List.all_eq_true.1 (show cs.all shutC=true from h)
  refine⟨?_,?_⟩
  ·show(cs.map frzC).all shutC=true
   rw[List.all_eq_true]
   intro y hy
   obtain⟨z,hz,rfl⟩:=List.mem_map.1 hy
   exact(frzC_ro z (hi z hz)).1
  ·show(SV.tup (impL impC 0 (cs.map frzC)).1,(impL impC 0 (cs.map frzC)).2)=_
   rw[impL_none]
   ·rfl
   ·intro y hy
    obtain⟨z,hz,rfl⟩:=List.mem_map.1 hy
    exact(frzC_ro z (hi z hz)).2
 | agg cs=>exact⟨(frzC_ro (.agg cs) h).1,(frzC_ro (.agg cs) h).2 0⟩
 | _=>first | exact⟨rfl,rfl⟩ | exact⟨h,rfl⟩

theorem PC.frozen {P:Program} {al:Bool} {f:FuncId} {args:List SV} {res:SV} (h:PC P al f args res):PC P al f args (frzT res) where
 enters:=h.enters
 shut:=(frzT_ro res h.shut).1
 calls:=by
  intro w A vs hA hl hv
  refine(h.calls w A vs hA hl hv).mono ?_
  rintro e w' ⟨v,rfl,hb,m,h1,h2,h3,h4⟩
  refine⟨v,rfl,hb,noMp,(fun b p hp=>by cases hp),(fun b b' g s s' hp=>by cases hp),?_,?_⟩
  ·rw[(frzT_ro res h.shut).2]
   intro k x hx
   simp at hx
  ·rw[(frzT_ro res h.shut).2]
   refine frzT_sound h.shut h3 (fun g hg=>?_) (fun b g s hm hg=>?_) h4
   ·rcases hg with hg | ⟨b,s,hb⟩
    ·exact .inl hg
    ·cases hb
   ·have:=(h1 b _ hm).2.1
    rcases hg with hg | ⟨b,s,hb⟩
    ·have:=hg.1;omega
    ·cases hb
theorem PC.as {P:Program} {al:Bool} {f:FuncId} {args args':List SV} {res res':SV} (h:PC P al f args res) (ha:args=args') (hr:res=res'):PC P al f args' res':=ha▸hr▸h
end Go.Sh
