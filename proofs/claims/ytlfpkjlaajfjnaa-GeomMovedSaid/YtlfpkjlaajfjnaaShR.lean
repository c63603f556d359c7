/- Calls that write blocks of the caller's: their contract, and what a call of one comes to. -/
import Derived.Test.YtlfpkjlaajfjnaaShT
set_option linter.unusedVariables false
set_option linter.unusedSimpArgs false
namespace Go.Sh
open Go.RowKit

def sg1 (σ:Nat→Nat):SV→SV
 | .own b off len => .own (σ b) off len
 | .ptr b off => .ptr (σ b) off
 | .eptr b i off => .eptr (σ b) i off
 | .omp b => .omp (σ b)
 | x=>x
def sgC (σ:Nat→Nat):SV→SV
 | .agg cs => .agg (cs.map (sg1 σ))
 | x=>sg1 σ x
def sgT (σ:Nat→Nat):SV→SV
 | .tup cs => .tup (cs.map (sgC σ))
 | x=>sgC σ x
def sgB (σ:Nat→Nat):Blk→Blk
 | .box cs => .box (cs.map (sg1 σ))
 | x=>x
def sgOk1:SV→Bool
 | .clo _ (_::_) | .bnd .. | .agg _ | .tup _=>false
 | _=>true
def sgOkC:SV→Bool
 | .agg cs=>cs.all sgOk1
 | x=>sgOk1 x
def sgOkT:SV→Bool
 | .tup cs=>cs.all sgOkC
 | x=>sgOkC x
def sgOkB:Blk→Bool
 | .box cs=>cs.all sgOk1
 | .arr true _ _ | .iter ..=>false
 | _=>true

theorem sg1_sound {w:World} {A A':Nat→Prop} {m m':Mp} {σ:Nat→Nat} (hA:∀g,A' g→A g) (hm:∀b p,m b=some p→m' (σ b)=some p) {y:SV} {v:Value} (hy:sgOk1 y=true) (h:OneR w A m y v):OneR w A' m' (sg1 σ y) v:=by
 cases h with
 | v h=>exact .v h
 | nil=>exact .nil
 | lst C hc hp hl hm' hr=>exact .lst C hc hp hl (fun i x j y h1 h2=>⟨fun h=>(hm' i x j y h1 h2).1 (hA _ h),(hm' i x j y h1 h2).2⟩) (fun i x j y h1 h2=>(hr i x j y h1 h2).pure _ hA (fun _ _ h=>h))
 | rptr C hm' hr=>exact .rptr C (fun j y h1=>⟨fun h=>(hm' j y h1).1 (hA _ h),(hm' j y h1).2⟩) (fun j y h1=>(hr j y h1).pure _ hA (fun _ _ h=>h))
 | own h1 h2 h3 h4=>exact .own (hm _ _ h1) h2 h3 h4
 | own0 h=>exact .own0 h
 | ptr h1=>exact .ptr (hm _ _ h1)
 | eptr h1=>exact .eptr (hm _ _ h1)
 | clo hl h =>
  rename_i f caps vs
  cases caps with
  | nil=>exact .clo hl (fun j y hy=>by simp at hy)
  | cons=>simp [sgOk1] at hy
 | mp h=>exact .mp ⟨fun h'=>h.1 (hA _ h'),h.2⟩
 | omp h1=>exact .omp (hm _ _ h1)
 | bnd=>simp [sgOk1] at hy

theorem sgC_sound {w:World} {A A':Nat→Prop} {m m':Mp} {σ:Nat→Nat} (hA:∀g,A' g→A g) (hm:∀b p,m b=some p→m' (σ b)=some p) {y:SV} {v:Value} (hy:sgOkC y=true) (h:VR w A m y v):VR w A' m' (sgC σ y) v:=by
 cases h with
 | one h =>
  cases y with
  | agg cs=>cases h
  | v u=>exact .one (sg1_sound (y := .v u) hA hm hy h)
  | lst xs=>exact .one (sg1_sound (y := .lst xs) hA hm hy h)
  | rptr xs=>exact .one (sg1_sound (y := .rptr xs) hA hm hy h)
  | own=>exact .one (sg1_sound (y := .own _ _ _) hA hm hy h)
  | ptr=>exact .one (sg1_sound (y := .ptr _ _) hA hm hy h)
  | eptr=>exact .one (sg1_sound (y := .eptr _ _ _) hA hm hy h)
  | clo=>exact .one (sg1_sound (y := .clo _ _) hA hm hy h)
  | mp=>exact .one (sg1_sound (y := .mp _) hA hm hy h)
  | omp=>exact .one (sg1_sound (y := .omp _) hA hm hy h)
  | bnd=>simp [sgOkC,sgOk1] at hy
  | tup=>cases h
  | frs=>cases h
  | junk=>cases h
 | agg hl h =>
  refine .agg (by simpa using hl) fun j z hz=>?_
  rw[List.getElem?_map,Option.map_eq_some_iff] at hz
  obtain⟨y,h1,rfl⟩:=hz
  exact sg1_sound hA hm (List.all_eq_true.1 hy y (List.mem_of_getElem? h1)) (h j y h1)
 | tup=>cases hy
 | junk=>exact .junk

theorem sgT_sound {w:World} {A A':Nat→Prop} {m m':Mp} {σ:Nat→Nat} (hA:∀g,A' g→A g) (hm:∀b p,m b=some p→m' (σ b)=some p) {y:SV} {v:Value} (hy:sgOkT y=true) (h:VR w A m y v):VR w A' m' (sgT σ y) v:=by
 cases h with
 | one h =>
  cases y with
  | tup=>cases h
  | agg=>cases h
  | v u=>exact sgC_sound (y := .v u) hA hm hy (.one h)
  | lst xs=>exact sgC_sound (y := .lst xs) hA hm hy (.one h)
  | rptr xs=>exact sgC_sound (y := .rptr xs) hA hm hy (.one h)
  | own=>exact sgC_sound (y := .own _ _ _) hA hm hy (.one h)
  | ptr=>exact sgC_sound (y := .ptr _ _) hA hm hy (.one h)
  | eptr=>exact sgC_sound (y := .eptr _ _ _) hA hm hy (.one h)
  | clo=>exact sgC_sound (y := .clo _ _) hA hm hy (.one h)
  | mp=>exact sgC_sound (y := .mp _) hA hm hy (.one h)
  | omp=>exact sgC_sound (y := .omp _) hA hm hy (.one h)
  | bnd=>simp [sgOkT,sgOkC,sgOk1] at hy
  | frs=>cases h
  | junk=>cases h
 | @agg cs vs hl h=>exact sgC_sound (y := .agg cs) hA hm hy (.agg hl h)
 | tup hl h =>
  refine .tup (by simpa using hl) fun j z hz=>?_
  rw[List.getElem?_map,Option.map_eq_some_iff] at hz
  obtain⟨y,h1,rfl⟩:=hz
  exact sgC_sound hA hm (List.all_eq_true.1 hy y (List.mem_of_getElem? h1)) (h j y h1)
 | junk=>exact .junk

theorem sgB_sound {w:World} {A A':Nat→Prop} {m m':Mp} {σ:Nat→Nat} (hA:∀g,A' g→A g) (hm:∀b p,m b=some p→m' (σ b)=some p) {b:Nat} (hb:m' (σ b)=m b) {x:Blk} (hx:sgOkB x=true) (h:BlkR w A m b x):BlkR w A' m' (σ b) (sgB σ x):=by
 cases x with
 | box cs =>
  obtain⟨g,s,C,e,h1,h2,h3,h4⟩:=h
  refine⟨g,s,C,e,hm _ _ h1,h2,by simpa using h3,fun j z hz=>?_⟩
  rw[List.getElem?_map,Option.map_eq_some_iff] at hz
  obtain⟨y,h5,rfl⟩:=hz
  exact sg1_sound hA hm (List.all_eq_true.1 hx y (List.mem_of_getElem? h5)) (h4 j y h5)
 | arr d sz xs =>
  cases d with
  | true=>simp [sgOkB] at hx
  | false =>
   obtain⟨hp,h | ⟨g,C,e,h1,h2,h3,h4,h5⟩⟩:=h
   ·exact⟨hp,.inl ⟨by rw[hb,h.1],h.2⟩⟩
   ·exact⟨hp,.inr ⟨g,C,e,hm _ _ h1,h2,h3,h4,fun i x j y hx hy=>(h5 i x j y hx hy).pure _ hA (fun _ _ h=>h)⟩⟩
 | mpb l =>
  obtain⟨g,s,h1,h2⟩:=h
  exact⟨g,s,hm _ _ h1,h2⟩
 | iter=>simp [sgOkB] at hx

structure PE (P:Program) (f:FuncId) (args:List SV) (r N:Nat) (H:Hp) (res:SV) (N':Nat) (H':Hp):Prop where
 enters:∃fn,P.funcs[f]?=some fn∧(fn.name == "runtime.NumGoroutine")=false∧fn.body.isNone=false
 calls:∀(w:World) (A:Nat→Prop) (m:Mp) (vs:Array Value),(∀g,A g→g < w.heap.size) →
  (∀b p,m b=some p→(∃x,hlook b H=some x)∧p.1 < w.heap.size∧¬A p.1) →
  (∀b b' x y g s s',hlook b H=some x→hlook b' H=some y→m b=some (g,s)→m b'=some (g,s')→b=b') →
  (∀b x,hlook b H=some x→b < N∧BlkR w (fun g=>A g∨OwnP H m g) m b x)→vs.size=args.length →
  (∀(j:Nat) (y:SV),args[j]?=some y→VR w (fun g=>A g∨OwnP H m g) m y (vs.getD j undef)) →
  Calls P f vs w fun e w'=>∃v m',e = .returned v∧BelowE (OwnP H m) w.heap.size w w' ∧
   (∀b p,m' b=some p→b < N'∧(w.heap.size≤p.1∨OwnP H m p.1)∧p.1 < w'.heap.size)∧(∀i,i < r→m' i=m i) ∧
   (∀b b' x y g s s',hlook b H'=some x→hlook b' H'=some y→m' b=some (g,s)→m' b'=some (g,s')→b=b') ∧
   (∀b x,hlook b H'=some x→b < N'∧BlkR w' (fun g=>A g∨OwnP H' m' g) m' b x)∧VR w' (fun g=>A g∨OwnP H' m' g) m' res v

/-! ### What is handed in -/
inductive Ca (ρ:List (Option Nat)):SV→SV→Prop where
 | v {u:Value} : Ca ρ (.v u) (.v u)
 | nilO {b:Nat} : Ca ρ (.v (.slice none 0 0)) (.own b 0 0)
 | nilL:Ca ρ (.v (.slice none 0 0)) (.lst [])
 | lst {xs:List SV} : Ca ρ (.lst xs) (.lst xs)
 | rptr {cs:List SV} : Ca ρ (.rptr cs) (.rptr cs)
 | own {b b' off len len':Nat} (h : ρ[b']?=some (some b)) (hl:len=len'):Ca ρ (.own b off len) (.own b' off len')
 | mp {l:List (Int×Int)} : Ca ρ (.mp l) (.mp l)
 | omp {b b':Nat} (h : ρ[b']?=some (some b)):Ca ρ (.omp b) (.omp b')
 | ptr {b b' off:Nat} (h : ρ[b']?=some (some b)):Ca ρ (.ptr b off) (.ptr b' off)
 | eptr {b b' i off:Nat} (h : ρ[b']?=some (some b)):Ca ρ (.eptr b i off) (.eptr b' i off)
 | clo {f:FuncId} {cs ys:List SV} (hl:ys.length=cs.length) (hr:∀(j:Nat) (x y:SV),cs[j]?=some x→ys[j]?=some y→Ca ρ x y):Ca ρ (.clo f cs) (.clo f ys)
 | bnd {f:FuncId} {cs ys:List SV} (hl:ys.length=cs.length) (hr:∀(j:Nat) (x y:SV),cs[j]?=some x→ys[j]?=some y→Ca ρ x y):Ca ρ (.bnd f cs) (.bnd f ys)
inductive CaC (ρ:List (Option Nat)):SV→SV→Prop where
 | one {x y:SV} (h:Ca ρ x y):CaC ρ x y
 | agg {cs ys:List SV} (h:AllR (Ca ρ) cs ys):CaC ρ (.agg cs) (.agg ys)
inductive CaB (ρ:List (Option Nat)):Blk→Blk→Prop where
 | box {cs ys:List SV} (h:AllR (Ca ρ) cs ys):CaB ρ (.box cs) (.box ys)
 | arr {sz:Nat} {xs ys:List SV} (h:xs=ys):CaB ρ (.arr false sz xs) (.arr false sz ys)
 | mpb {l l':List (Int×Int)} (h:l=l'):CaB ρ (.mpb l) (.mpb l')
 | trunc {sz n:Nat} {xs ys:List SV} (h:xs.take n=ys):CaB ρ (.arr false sz xs) (.arr false sz ys)

def sgm (ρ:List (Option Nat)) (r id j:Nat):Nat:=bif Nat.blt j r then (ρ[j]?).join.getD 0 else id+j
def HpA (hp:Nat→Option Blk) (ρ:List (Option Nat)) (N:Nat):Hp→Prop
 | []=>True
 | (b,some X)::r=>(Nat.blt b N=true∧((∃c Y,ρ[b]?=some (some c)∧hp c=some Y∧CaB ρ Y X)∨((ρ[b]?).join=none∧∃sz,X = .arr false sz []∧0 < sz)))∧HpA hp ρ N r
 | (_,none)::_=>False
theorem HpA.get {hp:Nat→Option Blk} {ρ:List (Option Nat)} {N:Nat} : ∀ {r:Hp},HpA hp ρ N r→∀b X,hlook b r=some X→b < N∧((∃c Y,ρ[b]?=some (some c)∧hp c=some Y∧CaB ρ Y X)∨((ρ[b]?).join=none∧∃sz,X = .arr false sz []∧0 < sz))
 | [],_,b,x,hb=>by simp [hlook,look] at hb
 | (c,some y)::r,hr,b,x,hb=>by
  by_cases hc:b=c
  ·subst hc
   unfold hlook at hb
   rw[look_cons,if_pos rfl] at hb
   cases hb
   exact⟨Nat.le_of_ble_eq_true hr.1.1,hr.1.2⟩
  ·refine HpA.get hr.2 b x ?_
   unfold hlook at hb ⊢
   rwa [look_cons,if_neg hc] at hb
 | (_,none)::_,hr,_,_,_=>hr.elim
def rhoIn (H:Hp):Nat→List (Option Nat)→Bool
 | _,[]=>true
 | k,none :: ρ=>rhoIn H (k+1) ρ
 | k,some _ :: ρ=>(hlook k H).isSome && rhoIn H (k+1) ρ
theorem rhoIn_get {H:Hp} : ∀ {ρ:List (Option Nat)} {k:Nat},rhoIn H k ρ=true→∀i c,ρ[i]?=some (some c)→∃x,hlook (k+i) H=some x
 | [],_,_,i,c,h=>by simp at h
 | none :: ρ,k,h,0,c,hi=>by simp at hi
 | some d :: ρ,k,h,0,c,hi=>by
  simp only[rhoIn,Bool.and_eq_true] at h
  exact Option.isSome_iff_exists.1 h.1
 | none :: ρ,k,h,i+1,c,hi=>by
  have:=rhoIn_get (k:=k+1) h i c (by simpa using hi)
  rwa [show k+(i+1)=k+1+i by omega]
 | some d :: ρ,k,h,i+1,c,hi=>by
  simp only[rhoIn,Bool.and_eq_true] at h
  have:=rhoIn_get (k:=k+1) h.2 i c (by simpa using hi)
  rwa [show k+(i+1)=k+1+i by omega]
def drops (ρ:List (Option Nat)):Hp:=(ρ.filterMap id).map fun c=>(c,none)
def news (σ:Nat→Nat) (H':Hp):Hp:=H'.map fun p=>(σ p.1,p.2.map (sgB σ))

def mIn (m:Mp) (ρ:List (Option Nat)):Mp:=fun b=>(ρ[b]?).join.bind m
theorem mIn_some {m:Mp} {ρ:List (Option Nat)} {b:Nat} {p:Nat×Nat} (h:mIn m ρ b=some p):∃c,ρ[b]?=some (some c)∧m c=some p:=by
 unfold mIn at h
 cases hq : ρ[b]? with
 | none=>rw[hq] at h;cases h
 | some c =>
  cases c with
  | none=>rw[hq] at h;cases h
  | some c=>rw[hq] at h;exact⟨c,rfl,h⟩
theorem mIn_of {m:Mp} {ρ:List (Option Nat)} {b c:Nat} (h : ρ[b]?=some (some c)):mIn m ρ b=m c:=by unfold mIn;rw[h];rfl

theorem Ca.sound {w:World} {A A':Nat→Prop} {m:Mp} {ρ:List (Option Nat)} (hA:∀g,A' g→A g) {x y:SV} (he:Ca ρ x y):∀v,OneR w A m x v→OneR w A' (mIn m ρ) y v:=by
 have rop:∀ {mm mm':Mp} {y:SV} {v:Value},ro1 y=true→OneR w A mm y v→OneR w A' mm' y v:=fun hy hv=>ro1_sound hy (hv.pure _ hA (fun _ _ h=>h))
 induction he with
 | v=>intro v hv;cases hv with | v h=>exact .v h
 | nilO=>intro v hv;cases hv with | v h=>exact .own0 rfl
 | nilL=>intro v hv;cases hv with | v h=>exact .nil
 | lst=>intro v hv;exact rop rfl hv
 | rptr=>intro v hv;exact rop rfl hv
 | mp=>intro v hv;exact rop rfl hv
 | omp hb=>intro v hv;cases hv with | omp h1=>exact .omp (by rw[mIn_of hb];exact h1)
 | own hb hl =>
  subst hl
  intro v hv
  cases hv with
  | own h1 h2 h3 h4=>exact .own (by rw[mIn_of hb];exact h1) h2 h3 h4
  | own0 h=>exact .own0 h
 | ptr hb=>intro v hv;cases hv with | ptr h1=>exact .ptr (by rw[mIn_of hb];exact h1)
 | eptr hb=>intro v hv;cases hv with | eptr h1=>exact .eptr (by rw[mIn_of hb];exact h1)
 | @clo f cs ys hl hr ih =>
  intro v hv
  cases hv with
  | clo hvl hv =>
   refine .clo (by omega) ?_
   intro j y hy
   have hlt:j < cs.length:=by rw[← hl];exact lt_of_get hy
   exact ih j cs[j] y (by simp [hlt]) hy _ (hv j cs[j] (by simp [hlt]))
 | @bnd f cs ys hl hr ih =>
  intro v hv
  cases hv with
  | bnd hvl hv =>
   refine .bnd (by omega) ?_
   intro j y hy
   have hlt:j < cs.length:=by rw[← hl];exact lt_of_get hy
   exact ih j cs[j] y (by simp [hlt]) hy _ (hv j cs[j] (by simp [hlt]))
theorem CaC.sound {w:World} {A A':Nat→Prop} {m:Mp} {ρ:List (Option Nat)} (hA:∀g,A' g→A g) {x y:SV} (he:CaC ρ x y) {v:Value} (hv:VR w A m x v):VR w A' (mIn m ρ) y v:=by
 cases he with
 | one he =>
  cases hv with
  | one hv=>exact .one (he.sound hA v hv)
  | agg=>cases he
  | tup=>cases he
  | junk=>cases he
 | @agg cs ys hr =>
  cases hv with
  | one hv=>cases hv
  | agg hvl hv =>
   refine .agg (by rw[hvl,hr.len]) ?_
   intro j y hy
   have hlt:j < cs.length:=by rw[← hr.len];exact lt_of_get hy
   exact(hr.get j cs[j] y (by simp [hlt]) hy).sound hA _ (hv j cs[j] (by simp [hlt]))

theorem look_drops (ρ:List (Option Nat)) (b:Nat) (x:Option Blk) (h:look b (drops ρ)=some x):x=none∧∃i:Nat,ρ[i]?=some (some b):=by
 unfold drops at h
 induction ρ with
 | nil=>simp [look] at h
 | cons a ρ ih =>
  cases a with
  | none =>
   rw[List.filterMap_cons_none (f:=id) rfl] at h
   obtain⟨h1,i,h2⟩:=ih h
   exact⟨h1,i+1,by simpa using h2⟩
  | some c =>
   rw[List.filterMap_cons_some (f:=id) rfl,List.map_cons,look_cons] at h
   split at h
   ·rename_i hb
    subst hb
    cases h
    exact⟨rfl,0,rfl⟩
   ·obtain⟨h1,i,h2⟩:=ih h
    exact⟨h1,i+1,by simpa using h2⟩
theorem look_drops_in {ρ:List (Option Nat)} {b i:Nat} (h : ρ[i]?=some (some b)):look b (drops ρ)=some none:=by
 unfold drops
 induction ρ generalizing i with
 | nil=>simp at h
 | cons a ρ ih =>
  cases i with
  | zero =>
   simp at h
   subst h
   rw[List.filterMap_cons_some (f:=id) rfl,List.map_cons,look_cons,if_pos rfl]
  | succ i =>
   have:=ih (i:=i) (by simpa using h)
   cases a with
   | none=>rw[List.filterMap_cons_none (f:=id) rfl];exact this
   | some c =>
    rw[List.filterMap_cons_some (f:=id) rfl,List.map_cons,look_cons]
    split
    ·rfl
    ·exact this
theorem look_news {σ:Nat→Nat} {b:Nat} {x:Option Blk} : ∀ {H':Hp},look b (news σ H')=some x→∃j y,b = σ j∧look j H'=some y∧x=y.map (sgB σ)
 | [],h=>by simp [news,look] at h
 | (k,z)::r,h=>by
  rw[news,List.map_cons,look_cons] at h
  split at h
  ·rename_i hb
   cases h
   exact⟨k,z,hb,by rw[look_cons,if_pos rfl],rfl⟩
  ·rename_i hb
   obtain⟨j,y,h1,h2,h3⟩:=look_news (σ := σ) (H':=r) h
   refine⟨j,y,h1,?_,h3⟩
   rw[look_cons,if_neg (fun e=>hb (by rw[h1,e]))]
   exact h2
theorem look_news_none {σ:Nat→Nat} {b:Nat} : ∀ {H':Hp},look b (news σ H')=none→∀j y,look j H'=some y→b ≠ σ j
 | [],h,j,y,hj=>by simp [look] at hj
 | (k,z)::r,h,j,y,hj=>by
  rw[news,List.map_cons,look_cons] at h
  split at h
  ·cases h
  ·rename_i hb
   rw[look_cons] at hj
   split at hj
   ·rename_i e;subst e;exact hb
   ·exact look_news_none (σ := σ) (H':=r) h j y hj

def rootsB (ρ:List (Option Nat)) (H:Hp):Nat→Bool
 | 0=>true
 | r+1=>(match ρ[r]? with | some (some _)=>true | _=>false) && rootsB ρ H r
theorem rootsB_get {ρ:List (Option Nat)} {H:Hp} : ∀ {r:Nat},rootsB ρ H r=true→∀i,i < r→∃c,ρ[i]?=some (some c)
 | 0,_,i,hi=>absurd hi (Nat.not_lt_zero _)
 | r+1,h,i,hi=>by
  simp only[rootsB,Bool.and_eq_true] at h
  by_cases e:i=r
  ·subst e
   have h1:=h.1
   split at h1
   ·rename_i c h2;exact⟨c,h2⟩
   ·cases h1
  ·exact rootsB_get h.2 i (by omega)
def fullB (H:Hp):Nat→Bool
 | 0=>true
 | n+1=>(hlook n H).isSome && fullB H n
theorem fullB_get {H:Hp} : ∀ {n:Nat},fullB H n=true→∀i,i < n→∃x,hlook i H=some x
 | 0,_,i,hi=>absurd hi (Nat.not_lt_zero _)
 | n+1,h,i,hi=>by
  simp only[fullB,Bool.and_eq_true] at h
  by_cases e:i=n
  ·subst e;exact Option.isSome_iff_exists.1 h.1
  ·exact fullB_get h.2 i (by omega)
theorem look_mem {α:Type} {b:Nat} {x : α} : ∀ {l:List (Nat × α)},look b l=some x→(b,x) ∈ l
 | [],h=>by simp [look] at h
 | p::l,h=>by
  obtain⟨j,y⟩:=p
  rw[look_cons] at h
  split at h
  ·rename_i e;cases h;subst e;exact List.mem_cons_self
  ·exact List.mem_cons_of_mem _ (look_mem h)

theorem enters_E {P:Program} {cx:Cx} {st:St} {hp:Nat→Option Blk} {o:Oper} {m:Mp} {a:Act} {w:World} (hR:RelM cx m st a w) (hd:∀t,o.dst=some t→t < cx.n) (hhp:∀b x,hp b=some x→hlook b st.heap=some x)
  {id:Nat} (hf:∀k,id≤k→k < id+8→Fresh st k) {ρ:List (Option Nat)} {f:FuncId} {zs:List SV} {res:SV} {r N N':Nat} {H H':Hp} {argv:Array Value} (hrun:(execOp a.eval o).run P w = .ok (.enter f argv) w) (hsz:argv.size=zs.length)
  (hargs:∀A':Nat→Prop,(∀g,A' g→AOf cx st.heap m g)→∀(j:Nat) (y:SV),zs[j]?=some y→VR w A' (mIn m ρ) y (argv.getD j undef))
  (hH:HpA hp ρ N H) (hρ:rhoIn H 0 ρ=true) (hn : ρ.Pairwise (fun a b=>a=none∨a ≠ b)) (hr:rootsB ρ H r=true) (h:PE P f zs r N H res N' H') (h8:N'≤8) (hok:H'.all (fun p=>(p.2.map sgOkB).getD false)=true) (hfull:fullB H' N'=true) (hrN:Nat.ble r N'=true) (hres:sgOkT res=true) :
  o.wp P a w (fun a' w'=>Rel cx (st.app o.dst (sgT (sgm ρ r id) res) (news (sgm ρ r id) H'++drops (ρ.drop r))) a' w') (fun _ _ _=>False):=by
 unfold Oper.wp
 rw[hrun]
 simp only[Oper.upon]
 -- the blocks that are handed in
 have nodup:∀ {i j c:Nat},ρ[i]?=some (some c) → ρ[j]?=some (some c)→i=j:=by
  intro i j c h1 h2
  have hi:=lt_of_get h1
  have hj:=lt_of_get h2
  rw[List.getElem?_eq_getElem hi] at h1
  rw[List.getElem?_eq_getElem hj] at h2
  have e1:=Option.some.inj h1
  have e2:=Option.some.inj h2
  have key:∀(i j:Nat) (hi:i < ρ.length) (hj:j < ρ.length),i < j → ρ[i]=some c → ρ[j]=some c→False:=by
   intro i j hi hj hlt e1 e2
   rcases List.pairwise_iff_getElem.1 hn i j hi hj hlt with h | h
   ·rw[e1] at h;cases h
   ·exact h (e1.trans e2.symm)
  rcases Nat.lt_trichotomy i j with hlt | heq | hgt
  ·exact(key i j hi hj hlt e1 e2).elim
  ·exact heq
  ·exact(key j i hj hi hgt e2 e1).elim
 have named:∀i c,ρ[i]?=some (some c)→∃X Y,hlook i H=some X∧hlook c st.heap=some Y∧CaB ρ Y X:=by
  intro i c hi
  obtain⟨X,hX⟩:=rhoIn_get hρ i c hi
  rw[Nat.zero_add] at hX
  obtain⟨_,⟨c',Y,h1,h2,h3⟩ | ⟨h1,_⟩⟩:=hH.get i X hX
  ·rw[hi] at h1
   cases h1
   exact⟨X,Y,hX,hhp _ _ h2,h3⟩
  ·rw[hi] at h1;cases h1
 let Ps:Nat→Prop:=fun g=>∃(i c s:Nat),ρ[i]?=some (some c)∧m c=some (g,s)
 have psown:∀g,Ps g→AOf cx st.heap m g:=by
  rintro g ⟨i,c,s,h1,h2⟩
  obtain⟨X,Y,h3,h4,_⟩:=named i c h1
  exact .inr ⟨c,Y,s,h4,h2⟩
 have hOwn:∀g,OwnP H (mIn m ρ) g ↔ Ps g:=by
  intro g
  constructor
  ·rintro ⟨b,X,s,h1,h2⟩
   obtain⟨c,h3,h4⟩:=mIn_some h2
   exact⟨b,c,s,h3,h4⟩
  ·rintro ⟨i,c,s,h1,h2⟩
   obtain⟨X,Y,h3,_⟩:=named i c h1
   exact⟨i,X,s,h3,by rw[mIn_of h1,h2]⟩
 let A:Nat→Prop:=fun g=>AOf cx st.heap m g∧¬Ps g
 have hA1:∀g,(A g∨OwnP H (mIn m ρ) g)→AOf cx st.heap m g:=by
  rintro g (h | h)
  ·exact h.1
  ·exact psown g ((hOwn g).1 h)
 have hAlt:∀g,AOf cx st.heap m g→g < w.heap.size:=by
  rintro g (hg | ⟨b,y,s,hy,hs⟩)
  ·exact Nat.lt_of_lt_of_le (hR.bsmall g hg).1 hR.basele
  ·exact(hR.dom b _ hs).2.2
 refine(h.calls w A (mIn m ρ) argv (fun g hg=>hAlt g hg.1) ?_ ?_ ?_ ?_ ?_).mono ?_
 ·intro b p hp
  obtain⟨c,h1,h2⟩:=mIn_some hp
  obtain⟨X,Y,h3,h4,_⟩:=named b c h1
  exact⟨⟨X,h3⟩,(hR.dom c p h2).2.2,fun hA=>hA.2 ⟨b,c,p.2,h1,h2⟩⟩
 ·intro b b' X Y g s s' hX hY hs hs'
  obtain⟨c,h1,h2⟩:=mIn_some hs
  obtain⟨c',h1',h2'⟩:=mIn_some hs'
  obtain⟨_,Z,_,h4,_⟩:=named b c h1
  obtain⟨_,Z',_,h4',_⟩:=named b' c' h1'
  have:=hR.inj c c' Z Z' g s s' h4 h4' h2 h2'
  subst this
  exact nodup h1 h1'
 ·intro b X hX
  obtain⟨hb,⟨c,Y,h1,h2,h3⟩ | ⟨h1,sz,rfl,hsz⟩⟩:=hH.get b X hX
  ·refine⟨hb,?_⟩
   have hbr:=hR.hp c Y (hhp _ _ h2)
   have hm:=mIn_of (m:=m) h1
   cases h3 with
   | @box cs ys hcs =>
    obtain⟨g,s,C,e,q1,q2,q3,q4⟩:=hbr
    refine⟨g,s,C,e,by rw[hm,q1],q2,by rw[q3,hcs.len],fun j y hy=>?_⟩
    have hlt:j < cs.length:=by have:=lt_of_get hy;rw[hcs.len] at this;exact this
    exact(hcs.get j _ y (List.getElem?_eq_getElem hlt) hy).sound hA1 _ (q4 j _ (List.getElem?_eq_getElem hlt))
   | arr he =>
    subst he
    obtain⟨hp,⟨q1,q2⟩ | ⟨g,C,e,q1,q2,q3,q4,q5⟩⟩:=hbr
    ·exact⟨hp,.inl ⟨by rw[hm,q1],q2⟩⟩
    ·exact⟨hp,.inr ⟨g,C,e,by rw[hm,q1],q2,q3,q4,fun i x j y hx hy=>(q5 i x j y hx hy).pure _ hA1 (fun _ _ h=>h)⟩⟩
   | mpb hl =>
    subst hl
    obtain⟨g,s,q1,q2⟩:=hbr
    exact⟨g,s,by rw[hm,q1],q2⟩
   | @trunc sz n xs ys he =>
    subst he
    obtain⟨hp,⟨q1,q2⟩ | ⟨g,C,e,q1,q2,q3,q4,q5⟩⟩:=hbr
    ·exact⟨hp,.inl ⟨by rw[hm,q1],by rw[q2];simp⟩⟩
    ·refine⟨hp,.inr ⟨g,C,e,by rw[hm,q1],q2,?_,fun x hx=>q4 x (List.mem_of_mem_take hx),fun i x j y hx hy=>?_⟩⟩
     ·exact Nat.le_trans (Nat.mul_le_mul_right _ (by rw[List.length_take];omega)) q3
     ·rw[List.getElem?_take] at hx
      split at hx
      ·exact(q5 i x j y hx hy).pure _ hA1 (fun _ _ h=>h)
      ·cases hx
  ·exact⟨hb,hsz,.inl ⟨by unfold mIn;rw[h1];rfl,rfl⟩⟩
 ·exact hsz
 ·exact hargs _ hA1
 ·rintro e w' ⟨v,m2,rfl,hb,p1,p2,p3,p4,p5⟩
  show Rel cx _ (a.put o.dst v) w'
  generalize hσ:sgm ρ r id = σ
  have σlo:∀j,j < r→∃c,ρ[j]?=some (some c) ∧ σ j=c:=by
   intro j hj
   obtain⟨c,hc⟩:=rootsB_get hr j hj
   refine⟨c,hc,?_⟩
   rw[← hσ]
   unfold sgm
   rw[show Nat.blt j r=true from Nat.ble_eq_true_of_le hj]
   simp [hc]
  have σhi:∀j,r≤j → σ j=id+j:=by
   intro j hj
   rw[← hσ]
   unfold sgm
   have:Nat.blt j r=false:=by
    cases hq:Nat.blt j r with
    | false=>rfl
    | true=>have:=Nat.le_of_ble_eq_true hq;simp at this;omega
   rw[this];rfl
  have old:∀(i c:Nat),ρ[i]?=some (some c)→¬(id≤c∧c < id+8):=by
   intro i c hi ⟨h1,h2⟩
   obtain⟨X,Y,_,h4,_⟩:=named i c hi
   exact hf c h1 h2 (hR.hnx c Y h4)
  have σinj:∀i j,i < N'→j < N' → σ i = σ j→i=j:=by
   intro i j hi hj hij
   by_cases h1:i < r <;> by_cases h2:j < r
   ·obtain⟨c,e1,e2⟩ := σlo i h1
    obtain⟨c',e3,e4⟩ := σlo j h2
    rw[e2,e4] at hij
    subst hij
    exact nodup e1 e3
   ·obtain⟨c,e1,e2⟩ := σlo i h1
    rw[e2,σhi j (by omega)] at hij
    exact absurd ⟨by omega,by omega⟩ (old i c e1)
   ·obtain⟨c,e1,e2⟩ := σlo j h2
    rw[e2,σhi i (by omega)] at hij
    exact absurd ⟨by omega,by omega⟩ (old j c e1)
   ·rw[σhi i (by omega),σhi j (by omega)] at hij
    omega
  let mN:Mp:=fun b=>if id≤b∧b < id+8 then (if r≤b-id then m2 (b-id) else none) else m b
  have hmold:∀b p,m b=some p→mN b=some p:=by
   intro b p hp
   have:¬(id≤b∧b < id+8):=fun hh=>hf b hh.1 hh.2 (hR.dom b p hp).1
   simp only[mN,this,if_false]
   exact hp
  have hmσ:∀j,j < N'→mN (σ j)=m2 j:=by
   intro j hj
   by_cases h1:j < r
   ·obtain⟨c,e1,e2⟩ := σlo j h1
    rw[e2]
    simp only[mN,old j c e1,if_false]
    rw[p2 j h1,mIn_of e1]
   ·rw[σhi j (by omega)]
    simp only[mN,show id≤id+j∧id+j < id+8 by omega,show r≤id+j-id by omega,if_true,and_self]
    rw[show id+j-id=j by omega]
  have hm2:∀j p,m2 j=some p→mN (σ j)=some p:=fun j p hp=>by rw[hmσ j (p1 j p hp).1,hp]
  have keys:∀j y,look j H'=some y→j < N'∧∃x,y=some x∧sgOkB x=true:=by
   intro j y hy
   have hmem:=look_mem hy
   have:=List.all_eq_true.1 hok _ hmem
   cases y with
   | none=>simp at this
   | some x=>exact⟨(p4 j x (by unfold hlook;rw[hy])).1,x,rfl,by simpa using this⟩
  have hu:∀b z,hlook b (news σ H'++drops (ρ.drop r)++st.heap)=some z→(∃j x,b = σ j∧hlook j H'=some x∧z=sgB σ x∧sgOkB x=true∧j < N') ∨
    ((∀j y,look j H'=some y→b ≠ σ j)∧(∀i,r≤i → ρ[i]? ≠ some (some b))∧hlook b st.heap=some z):=by
   intro b z hz
   rw[List.append_assoc,hlook_append] at hz
   cases hn1:look b (news σ H') with
   | some q =>
    rw[hn1] at hz
    obtain⟨j,y,h1,h2,h3⟩:=look_news hn1
    obtain⟨h4,X,rfl,h5⟩:=keys j y h2
    subst h3
    simp only[Option.map_some,Option.some.injEq] at hz
    exact .inl ⟨j,X,h1,by unfold hlook;rw[h2],hz.symm,h5,h4⟩
   | none =>
    rw[hn1] at hz
    simp only at hz
    rw[hlook_append] at hz
    cases hn2:look b (drops (ρ.drop r)) with
    | some q =>
     rw[hn2] at hz
     obtain⟨h1,_⟩:=look_drops _ _ _ hn2
     subst h1
     cases hz
    | none =>
     rw[hn2] at hz
     refine .inr ⟨look_news_none hn1,fun i hi hc=>?_,hz⟩
     have:=look_drops_in (ρ := ρ.drop r) (b:=b) (i:=i-r) (by rw[List.getElem?_drop,show r+(i-r)=i by omega];exact hc)
     rw[hn2] at this
     cases this
  -- a block that stays lies where none of those lies that were handed in
  have apart:∀b z g s,hlook b st.heap=some z→m b=some (g,s)→(∀i,r≤i → ρ[i]? ≠ some (some b))→(∀i,i < r → ρ[i]? ≠ some (some b))→¬Ps g:=by
   rintro b z g s h1 h2 h3 h4 ⟨i,c,s',h5,h6⟩
   obtain⟨_,Y,_,h7,_⟩:=named i c h5
   have:=hR.inj b c z Y g s s' h1 h7 h2 h6
   subst this
   rcases Nat.lt_or_ge i r with hi | hi
   ·exact h4 i hi h5
   ·exact h3 i hi h5
  have hrN':=Nat.le_of_ble_eq_true hrN
  have rootin:∀b,(∀j y,look j H'=some y→b ≠ σ j)→∀i,i < r → ρ[i]? ≠ some (some b):=by
   intro b hb i hi hc
   obtain⟨c,e1,e2⟩ := σlo i hi
   rw[hc] at e1
   cases e1
   obtain⟨X,hX⟩:=fullB_get hfull i (by omega)
   unfold hlook at hX
   cases hq:look i H' with
   | none=>rw[hq] at hX;cases hX
   | some y=>exact hb i y hq e2.symm
  have inkeys:∀j,j < N' → σ j ∈ (news σ H'++drops (ρ.drop r)).map (·.1):=by
   intro j hj
   obtain⟨X,hX⟩:=fullB_get hfull j hj
   unfold hlook at hX
   cases hq:look j H' with
   | none=>rw[hq] at hX;cases hX
   | some y =>
    rw[List.map_append,List.mem_append]
    refine .inl ?_
    unfold news
    rw[List.map_map]
    exact List.mem_map.2 ⟨(j,y),look_mem hq,rfl⟩
  have mNold:∀b z,hlook b st.heap=some z→mN b=m b:=by
   intro b z hz
   have:¬(id≤b∧b < id+8):=fun hh=>hf b hh.1 hh.2 (hR.hnx b z hz)
   simp only[mN,this,if_false]
  have hAA:∀g,AOf cx (news σ H'++drops (ρ.drop r)++st.heap) mN g→A g∨OwnP H' m2 g:=by
   rintro g (hg | ⟨b,z,s,hz,hs⟩)
   ·refine .inl ⟨.inl hg,?_⟩
    rintro ⟨i,c,s,h1,h2⟩
    have h3:=hR.bsmall g hg
    rcases(hR.dom c _ h2).2.1 with h4 | h4
    ·exact absurd h3.1 (Nat.not_lt_of_le h4)
    ·exact h3.2 h4
   ·rcases hu b z hz with⟨j,X,rfl,h1,_,_,h2⟩ | ⟨h1,h2,h3⟩
    ·rw[hmσ j h2] at hs
     exact .inr ⟨j,X,s,h1,hs⟩
    ·rw[mNold b z h3] at hs
     exact .inl ⟨.inr ⟨b,z,s,h3,hs⟩,apart b z g s h3 hs h2 (rootin b h1)⟩
  have hA2:∀g,AOf cx (news σ H'++drops (ρ.drop r)++st.heap) mN g→AOf cx st.heap m g∨w.heap.size≤g:=by
   intro g hg
   rcases hAA g hg with h1 | ⟨j,X,s,h1,h2⟩
   ·exact .inl h1.1
   ·rcases(p1 j _ h2).2.1 with h3 | h3
    ·exact .inr h3
    ·exact .inl (psown g ((hOwn g).1 h3))
  have hro:∀g,¬AOf cx st.heap m g→g < w.heap.size→w'.heap[g]?=w.heap[g]?:=fun g hg hlt=>hb.block g hlt fun h=>hg (psown g ((hOwn g).1 h))
  have hRM:=hR.change (m':=mN) (heap':=news σ H'++drops (ρ.drop r)++st.heap) (al':=(news σ H'++drops (ρ.drop r)).map (·.1)++st.al)
   ⟨hb.os,hb.tape,hb.output,hb.size,fun k hk he=>hb.block k (Nat.lt_of_lt_of_le hk hR.basele) (fun h=>by
    obtain⟨i,c,s,h1,h2⟩:=(hOwn k).1 h
    rcases(hR.dom c _ h2).2.1 with h4 | h4
    ·exact absurd hk (Nat.not_lt_of_le h4)
    ·exact he h4),hb.rows⟩ hro hA2 hb.rows hmold (fun b hlt=>by
    have:¬(id≤b∧b < id+8):=fun hh=>hf b hh.1 hh.2 (.inl hlt)
    simp only[mN,this,if_false])
   (fun b p hp=>by
    by_cases hfr:id≤b∧b < id+8
    ·simp only[mN,hfr,and_self,if_true] at hp
     split at hp
     ·rename_i hrb
      obtain⟨h1,h2,h3⟩:=p1 _ _ hp
      have hin:=inkeys (b-id) h1
      rw[σhi _ hrb,show id+(b-id)=b by omega] at hin
      refine⟨.inr (List.mem_append_left _ hin),?_,h3⟩
      rcases h2 with h2 | h2
      ·exact .inl (Nat.le_trans hR.basele h2)
      ·obtain⟨i,c,s,h4,h5⟩:=(hOwn p.1).1 h2
       exact(hR.dom c _ h5).2.1
     ·cases hp
    ·simp only[mN,hfr,if_false] at hp
     obtain⟨h1,h2,h3⟩:=hR.dom b p hp
     exact⟨h1.imp _root_.id (List.mem_append_right _),h2,Nat.lt_of_lt_of_le h3 hb.size⟩)
   (fun b z hz=>by
    rcases hu b z hz with⟨j,X,rfl,_,_,_,h2⟩ | ⟨_,_,h3⟩
    ·exact .inr (List.mem_append_left _ (inkeys j h2))
    ·exact(hR.hnx b z h3).imp _root_.id (List.mem_append_right _))
   (fun b b' z z' g s s' hz hz' hs hs'=>by
    rcases hu b z hz with⟨j,X,rfl,h1,_,_,h2⟩ | ⟨h1,h2,h3⟩
    ·rw[hmσ j h2] at hs
     rcases hu b' z' hz' with⟨j',X',rfl,h1',_,_,h2'⟩ | ⟨h1',h2',h3'⟩
     ·rw[hmσ j' h2'] at hs'
      rw[p3 j j' X X' g s s' h1 h1' hs hs']
     ·rw[mNold b' z' h3'] at hs'
      exfalso
      rcases(p1 j _ hs).2.1 with h4 | h4
      ·have:=(hR.dom b' _ hs').2.2
       exact absurd this (Nat.not_lt_of_le h4)
      ·exact apart b' z' g s' h3' hs' h2' (rootin b' h1') ((hOwn g).1 h4)
    ·rw[mNold b z h3] at hs
     rcases hu b' z' hz' with⟨j',X',rfl,h1',_,_,h2'⟩ | ⟨h1',h2',h3'⟩
     ·rw[hmσ j' h2'] at hs'
      exfalso
      rcases(p1 j' _ hs').2.1 with h4 | h4
      ·have:=(hR.dom b _ hs).2.2
       exact absurd this (Nat.not_lt_of_le h4)
      ·exact apart b z g s h3 hs h2 (rootin b h1) ((hOwn g).1 h4)
     ·rw[mNold b' z' h3'] at hs'
      exact hR.inj b b' z z' g s s' h3 h3' hs hs')
   (fun b z hz=>by
    rcases hu b z hz with⟨j,X,rfl,h1,rfl,h5,h2⟩ | ⟨h1,h2,h3⟩
    ·exact sgB_sound hAA hm2 (hmσ j h2) h5 (p4 j X h1).2
    ·refine(hR.hp b z h3).mono (mNold b z h3) hro hA2 hb.rows hmold ?_
     intro g s hs
     exact hb.block g (hR.dom b _ hs).2.2 fun h=>apart b z g s h3 hs h2 (rootin b h1) ((hOwn g).1 h))
  refine⟨mN,?_⟩
  unfold St.app
  rw[put_heap]
  exact hRM.put hd fun _=>sgT_sound hAA hm2 hres p5

theorem goes_callE {P:Program} {cx:Cx} {st:St} {hp:Nat→Option Blk} {E:Operand→SV} {o:Oper} (hEv:∀m a w,RelM cx m st a w→EvR cx m st a w E) {x:Operand} {args:Array Operand} {ts:Array TypeId} (ho:o.op = .call ⟨.value x,args,ts⟩) (hd:∀t,o.dst=some t→t < cx.n) (hhp:∀b x,hp b=some x→hlook b st.heap=some x)
  {id:Nat} (hf:∀k,id≤k→k < id+8→Fresh st k) {ρ:List (Option Nat)} {f:FuncId} {cs ys cs':List SV} {res:SV} {r N N':Nat} {H H':Hp} (hx:E x = .clo f cs) (hc:AllR (Ca ρ) cs cs') (ha:AllR (CaC ρ) (args.toList.map E) ys)
  (hH:HpA hp ρ N H) (hρ:rhoIn H 0 ρ=true) (hn : ρ.Pairwise (fun a b=>a=none∨a ≠ b)) (hr:rootsB ρ H r=true) (h:PE P f (ys++cs') r N H res N' H') (h8:N'≤8) (hok:H'.all (fun p=>(p.2.map sgOkB).getD false)=true) (hfull:fullB H' N'=true) (hrN:Nat.ble r N'=true) (hres:sgOkT res=true) :
  Goes P cx o st (st.app o.dst (sgT (sgm ρ r id) res) (news (sgm ρ r id) H'++drops (ρ.drop r))):=by
 rintro a w ⟨m,hR⟩
 have hE:=hEv m a w hR
 have hv:=hE.ev1 hx (by simp) (by simp) (by simp)
 generalize hq:a.eval x=q at hv
 cases hv with
 | clo hvl hvc =>
  rename_i vs
  obtain⟨fn,hfn,hname,hbody⟩:=h.enters
  have hrun:(execOp a.eval o).run P w = .ok (.enter f (args.map a.eval++vs)) w:=by
   have hname':¬fn.name = "runtime.NumGoroutine":=by simpa using hname
   have hbody':¬fn.body=none:=by intro hh;rw[hh] at hbody;cases hbody
   simp [execOp,ho,resolve,hq,Deferred.ofValue,invoke,callFunc,hfn,hname',hbody']
  have hlen1:=ha.len
  have hlen2:=hc.len
  simp only[List.length_map,Array.length_toList] at hlen1
  refine enters_E hR hd hhp hf hrun (by simp [hlen1,hlen2,hvl]) ?_ hH hρ hn hr h h8 hok hfull hrN hres
  intro A' hA1
  ·intro j y hy
   by_cases hj:j < ys.length
   ·rw[List.getElem?_append_left hj] at hy
    have hr:=ha.get j (E args[j]) y (by simp [show j < args.size by omega]) hy
    have hval:(args.map a.eval++vs).getD j undef=a.eval args[j]:=by
     simp only[Array.getD_eq_getD_getElem?]
     rw[Array.getElem?_append_left (by simp;omega)]
     simp [show j < args.size by omega]
    rw[hval]
    exact hr.sound hA1 (hE _)
   ·rw[List.getElem?_append_right (by omega)] at hy
    have hj2:j-ys.length < cs.length:=by have:=lt_of_get hy;omega
    have hr:=hc.get (j-ys.length) cs[j-ys.length] y (by simp [hj2]) hy
    have hval:(args.map a.eval++vs).getD j undef=vs.getD (j-ys.length) undef:=by
     simp only[Array.getD_eq_getD_getElem?]
     rw[Array.getElem?_append_right (by simp;omega)]
     simp [hlen1]
    rw[hval]
    exact .one (hr.sound hA1 _ (hvc _ _ (by simp [hj2])))

theorem goes_callB {P:Program} {cx:Cx} {st:St} {hp:Nat→Option Blk} {E:Operand→SV} {o:Oper} (hEv:∀m a w,RelM cx m st a w→EvR cx m st a w E) {x:Operand} {args:Array Operand} {ts:Array TypeId} (ho:o.op = .call ⟨.value x,args,ts⟩) (hd:∀t,o.dst=some t→t < cx.n) (hhp:∀b x,hp b=some x→hlook b st.heap=some x)
  {id:Nat} (hf:∀k,id≤k→k < id+8→Fresh st k) {ρ:List (Option Nat)} {f:FuncId} {cs ys cs':List SV} {res:SV} {r N N':Nat} {H H':Hp} (hx:E x = .bnd f cs) (hc:AllR (Ca ρ) cs cs') (ha:AllR (CaC ρ) (args.toList.map E) ys)
  (hH:HpA hp ρ N H) (hρ:rhoIn H 0 ρ=true) (hn : ρ.Pairwise (fun a b=>a=none∨a ≠ b)) (hr:rootsB ρ H r=true) (h:PE P f (cs'++ys) r N H res N' H') (h8:N'≤8) (hok:H'.all (fun p=>(p.2.map sgOkB).getD false)=true) (hfull:fullB H' N'=true) (hrN:Nat.ble r N'=true) (hres:sgOkT res=true) :
  Goes P cx o st (st.app o.dst (sgT (sgm ρ r id) res) (news (sgm ρ r id) H'++drops (ρ.drop r))):=by
 rintro a w ⟨m,hR⟩
 have hE:=hEv m a w hR
 have hv:=hE.ev1 hx (by simp) (by simp) (by simp)
 generalize hq:a.eval x=q at hv
 cases hv with
 | bnd hvl hvc =>
  rename_i vs
  obtain⟨fn,hfn,hname,hbody⟩:=h.enters
  have hrun:(execOp a.eval o).run P w = .ok (.enter f (vs++args.map a.eval)) w:=by
   have hname':¬fn.name = "runtime.NumGoroutine":=by simpa using hname
   have hbody':¬fn.body=none:=by intro hh;rw[hh] at hbody;cases hbody
   simp [execOp,ho,resolve,hq,Deferred.ofValue,invoke,callFunc,hfn,hname',hbody']
  have hlen1:=ha.len
  have hlen2:=hc.len
  simp only[List.length_map,Array.length_toList] at hlen1
  refine enters_E hR hd hhp hf hrun (by simp [hlen1,hlen2,hvl]) ?_ hH hρ hn hr h h8 hok hfull hrN hres
  intro A' hA1
  ·intro j y hy
   by_cases hj:j < cs'.length
   ·rw[List.getElem?_append_left hj] at hy
    have hj2:j < cs.length:=by omega
    have hr:=hc.get j cs[j] y (by simp [hj2]) hy
    have hval:(vs++args.map a.eval).getD j undef=vs.getD j undef:=by
     simp only[Array.getD_eq_getD_getElem?]
     rw[Array.getElem?_append_left (by omega)]
    rw[hval]
    exact .one (hr.sound hA1 _ (hvc _ _ (by simp [hj2])))
   ·rw[List.getElem?_append_right (by omega)] at hy
    have hj':j-cs'.length < args.size:=by have:=lt_of_get hy;omega
    have hr:=ha.get (j-cs'.length) (E args[j-cs'.length]) y (by simp [hj']) hy
    have hval:(vs++args.map a.eval).getD j undef=a.eval args[j-cs'.length]:=by
     simp only[Array.getD_eq_getD_getElem?]
     rw[Array.getElem?_append_right (by omega)]
     simp [show vs.size=cs'.length by omega,hj']
    rw[hval]
    exact hr.sound hA1 (hE _)

def callOk (ρ:List (Option Nat)) (r:Nat) (H:Hp) (res:SV) (N':Nat) (H':Hp):Bool :=
 rhoIn H 0 ρ && rootsB ρ H r && Nat.ble N' 8 && H'.all (fun p=>(p.2.map sgOkB).getD false) && fullB H' N' && Nat.ble r N' && sgOkT res && H'.all (fun p=>Nat.blt p.1 N')
theorem callE_keys {hp:Nat→Option Blk} {ρ:List (Option Nat)} {r id N N':Nat} {H H':Hp} (hH:HpA hp ρ N H) (hρ:rhoIn H 0 ρ=true) (hr:rootsB ρ H r=true) (h8:N'≤8) (hk:H'.all (fun p=>Nat.blt p.1 N')=true) :
  ∀k,k ∈ (news (sgm ρ r id) H'++drops (ρ.drop r)).map (·.1)→(id≤k∧k < id+8)∨∃b,hp k=some b:=by
 have named:∀(i c:Nat),ρ[i]?=some (some c)→∃b,hp c=some b:=by
  intro i c hi
  obtain⟨X,hX⟩:=rhoIn_get hρ i c hi
  rw[Nat.zero_add] at hX
  obtain⟨_,⟨c',Y,h1,h2,h3⟩ | ⟨h1,_⟩⟩:=hH.get i X hX
  ·rw[hi] at h1
   cases h1
   exact⟨Y,h2⟩
  ·rw[hi] at h1;cases h1
 intro k hkm
 rw[List.map_append,List.mem_append] at hkm
 rcases hkm with hkm | hkm
 ·obtain⟨p,hp',rfl⟩:=List.mem_map.1 hkm
  obtain⟨q,hq,rfl⟩:=List.mem_map.1 hp'
  have hlt:q.1 < N':=Nat.le_of_ble_eq_true (List.all_eq_true.1 hk q hq)
  show(id≤sgm ρ r id q.1∧sgm ρ r id q.1 < id+8)∨_
  cases hb:Nat.blt q.1 r with
  | true =>
   obtain⟨c,hc⟩:=rootsB_get hr q.1 (Nat.le_of_ble_eq_true hb)
   refine .inr ?_
   have:sgm ρ r id q.1=c:=by unfold sgm;rw[hb,hc];rfl
   rw[this]
   exact named _ c hc
  | false =>
   have:sgm ρ r id q.1=id+q.1:=by unfold sgm;rw[hb];rfl
   rw[this]
   exact .inl ⟨by omega,by omega⟩
 ·obtain⟨p,hp',rfl⟩:=List.mem_map.1 hkm
  unfold drops at hp'
  obtain⟨c,hc,rfl⟩:=List.mem_map.1 hp'
  obtain⟨o,ho,h⟩:=List.mem_filterMap.1 hc
  have h:o=some c:=h
  subst h
  obtain⟨i,hi⟩:=List.getElem?_of_mem ho
  rw[List.getElem?_drop] at hi
  exact .inr (named _ c hi)

inductive Thin (hp:Nat→Option Blk):Hp→Hp→Prop where
 | nil:Thin hp [] []
 | keep {p:Nat×Option Blk} {u u':Hp} (t:Thin hp u u'):Thin hp (p::u) (p::u')
 | skip {b:Nat} {Z:Blk} {u u':Hp} (h:hp b=some Z) (hn:(u.map (·.1)).contains b=false) (t:Thin hp u u'):Thin hp ((b,some Z)::u) u'
theorem Thin.looks {hp:Nat→Option Blk} {heap u u':Hp} (hhp:∀b x,hp b=some x→hlook b heap=some x) (h:Thin hp u u'):∀b,hlook b (u'++heap)=hlook b (u++heap):=by
 induction h with
 | nil=>intro b;rfl
 | @keep p u u' t ih =>
  intro b
  obtain⟨c,x⟩:=p
  by_cases hb:b=c
  ·unfold hlook
   rw[List.cons_append,List.cons_append,look_cons,look_cons,if_pos hb,if_pos hb]
  ·have:=ih b
   unfold hlook at this ⊢
   rw[List.cons_append,List.cons_append,look_cons,look_cons,if_neg hb,if_neg hb]
   exact this
 | @skip c Z u u' h hn t ih =>
  intro b
  by_cases hb:b=c
  ·subst hb
   rw[ih]
   have h1:hlook b ((b,some Z)::u++heap)=some Z:=by unfold hlook;rw[List.cons_append,look_cons,if_pos rfl]
   rw[h1,hlook_append]
   cases hq:look b u with
   | none=>exact hhp b Z h
   | some y =>
    exfalso
    have hm:b ∈ u.map (·.1):=List.mem_map.2 ⟨_,look_mem hq,rfl⟩
    have:=List.contains_iff_mem.2 hm
    rw[hn] at this
    cases this
  ·rw[ih]
   unfold hlook
   rw[List.cons_append,look_cons,if_neg hb]
theorem Thin.key {hp:Nat→Option Blk} {u u':Hp} (h:Thin hp u u'):(∀b,b ∈ u.map (·.1)→b ∈ u'.map (·.1)∨∃x,hp b=some x)∧∀b,b ∈ u'.map (·.1)→b ∈ u.map (·.1):=by
 induction h with
 | nil=>exact⟨fun b hb => .inl hb,fun b hb=>hb⟩
 | keep t ih =>
  refine⟨fun b hb=>?_,fun b hb=>?_⟩
  ·simp only[List.map_cons,List.mem_cons] at hb ⊢
   rcases hb with rfl | hb
   ·exact .inl (.inl rfl)
   ·exact(ih.1 b hb).imp .inr id
  ·simp only[List.map_cons,List.mem_cons] at hb ⊢
   exact hb.imp id (ih.2 b)
 | skip h hn t ih =>
  refine⟨fun b hb=>?_,fun b hb=>?_⟩
  ·simp only[List.map_cons,List.mem_cons] at hb
   rcases hb with rfl | hb
   ·exact .inr ⟨_,h⟩
   ·exact ih.1 b hb
  ·simp only[List.map_cons,List.mem_cons]
   exact .inr (ih.2 b hb)
theorem OwnP_congr {h h':Hp} (he:∀b,hlook b h'=hlook b h) (m:Mp):OwnP h' m=OwnP h m:=by
 funext g
 unfold OwnP
 simp only[he]
theorem thin_rel {cx:Cx} {st:St} {hp:Nat→Option Blk} {u u':Hp} {d:Option Tmp} {x:SV} (ht:Thin hp u u') (hhp:∀b x,hp b=some x→hlook b st.heap=some x) (h0:∀b x,hlook b st.heap=some x→b < st.nx∨b ∈ st.al) {a:Act} {w:World} (h:Rel cx (st.app d x u) a w):Rel cx (st.app d x u') a w:=by
 obtain⟨m,h⟩:=h
 have hl:=ht.looks hhp
 have hal:∀b,(b < st.nx∨b ∈ u.map (·.1)++st.al)→(b < st.nx∨b ∈ u'.map (·.1)++st.al):=by
  intro b hb
  rcases hb with hb | hb
  ·exact .inl hb
  ·rcases List.mem_append.1 hb with hb | hb
   ·rcases ht.key.1 b hb with h1 | ⟨y,h1⟩
    ·exact .inr (List.mem_append_left _ h1)
    ·exact(h0 b y (hhp b y h1)).imp id (List.mem_append_right _)
   ·exact .inr (List.mem_append_right _ hb)
 have e1:∀u:Hp,(st.app d x u).heap=u++st.heap:=by intro u;cases d <;> rfl
 have e2:∀u:Hp,(st.app d x u).al=u.map (·.1)++st.al:=by intro u;cases d <;> rfl
 have e3:∀u:Hp,(st.app d x u).nx=st.nx:=by intro u;cases d <;> rfl
 have e4:∀u:Hp,(st.app d x u).env=(st.put d x).env:=by intro u;cases d <;> rfl
 have hO:OwnP (st.app d x u').heap m=OwnP (st.app d x u).heap m:=OwnP_congr (by intro b;rw[e1,e1];exact hl b) m
 refine⟨m,{ below:=h.below,basele:=h.basele,bsmall:=h.bsmall,pin:=fun i hi=>⟨(h.pin i hi).1,by have:=(h.pin i hi).2;rw[e3] at this ⊢;exact this⟩,defs:=h.defs,size:=h.size,env:=?_,dom:=?_,hnx:=?_,inj:=?_,hp:=?_ }⟩
 ·intro t y hy
  rw[hO]
  exact h.env t y (by rw[e4] at hy ⊢;exact hy)
 ·intro b p hp'
  have:=h.dom b p hp'
  rw[e3,e2] at this ⊢
  exact⟨hal b this.1,this.2⟩
 ·intro b y hy
  rw[e1,hl] at hy
  have:=h.hnx b y (by rw[e1];exact hy)
  rw[e3,e2] at this ⊢
  exact hal b this
 ·intro b b' y y' g s s' h1 h2
  rw[e1,hl] at h1 h2
  exact h.inj b b' y y' g s s' (by rw[e1];exact h1) (by rw[e1];exact h2)
 ·intro b y hy
  rw[e1,hl] at hy
  rw[hO]
  exact h.hp b y (by rw[e1];exact hy)
end Go.Sh
