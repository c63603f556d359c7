/- A function's contract, out of the walk through its body. -/
import Derived.Test.YtlfpkjlaajfjnaaShD
set_option linter.unusedVariables false
set_option linter.unusedSimpArgs false
namespace Go.Sh
open Go.RowKit

section
variable {P:Program} {cx:Cx} {m:Mp} {st:St} {a:Act} {w:World}

def rvRun (tmps:Array Value):ResultVar→Sem Value
 | .tmp t=>pure (tmps.getD t undef)
 | .cell p t=>do loadVar t (← asAddr (tmps.getD p undef))

theorem results_eq (fn:Func) (tmps:Array Value):results fn tmps=(do let vs ← fn.results.mapM (rvRun tmps);pure (if h:vs.size=1 then vs[0] else .tuple vs)):=by
 unfold results
 congr 1
 (first | done | (congr 1;funext r;cases r <;> rfl))

theorem rv_run (h:RelM cx m st a w) {r:ResultVar} {x:SV} (hr:RvS P st x r):∃v,(rvRun a.tmps r).run P w = .ok v w∧VR w (AOf cx st.heap m) m x v:=by
 cases r with
 | tmp t=>exact⟨_,rfl,h.env t x hr⟩
 | cell p t =>
  obtain⟨b,off,cs,sz,agg,hT,h1,h2,h3⟩:=hr
  have hv:=h.env p _ h1
  unfold rvRun
  simp only
  generalize a.tmps.getD p undef=q at hv ⊢
  cases hv with
  | one hv =>
   cases hv with
   | ptr hm =>
    rename_i g s
    obtain⟨v,h4,h5⟩:=run_loadAt (P:=P) hT (g:=g) (o:=0) (fun j y hy=>blk_cell h h2 hm j y hy) h3
    rw[Nat.zero_add] at h4
    refine⟨v,?_,h5⟩
    have:(loadVar t ⟨g,off,none⟩).run P w = .ok v w:=by
     unfold Instr.loadAt Instr.sureAddr at h4
     simpa using h4
    simp only[Sem.run_bind,asAddr,Sem.run_pure,Result.andThen_ok]
    exact this

theorem rvl_run (h:RelM cx m st a w):∀(rs:List ResultVar) (xs:List SV),RvL P st rs xs→∃vs:List Value,(rs.mapM (rvRun a.tmps)).run P w = .ok vs w ∧
  vs.length=xs.length∧∀(j:Nat) (x:SV),xs[j]?=some x→VR w (AOf cx st.heap m) m x (vs.getD j undef)
 | [],[],_=>⟨[],rfl,rfl,fun j x hx=>by simp at hx⟩
 | r::rs,x::xs,hr=>by
  obtain⟨v,h1,h2⟩:=rv_run h hr.1
  obtain⟨vs,h3,h4,h5⟩:=rvl_run h rs xs hr.2
  refine⟨v::vs,?_,by simp [h4],?_⟩
  ·rw[List.mapM_cons]
   rw[Sem.run_bind,h1]
   simp only[Result.andThen_ok]
   rw[Sem.run_bind,h3]
   rfl
  ·intro j y hy
   cases j with
   | zero=>simp at hy;subst hy;simpa using h2
   | succ j=>simpa using h5 j y (by simpa using hy)
 | [],_::_,hr=>hr.elim
 | _::_,[],hr=>hr.elim

theorem results_run (h:RelM cx m st a w) {fn:Func} {xs:List SV} (hr:RvL P st fn.results.toList xs):∃v,(results fn a.tmps).run P w = .ok v w∧VR w (AOf cx st.heap m) m (oneOr xs) v:=by
 obtain⟨vs,h1,h2,h3⟩:=rvl_run h _ _ hr
 have hrun:(results fn a.tmps).run P w = .ok (if h:vs.toArray.size=1 then vs.toArray[0] else .tuple vs.toArray) w:=by
  rw[results_eq,Array.mapM_eq_mapM_toList]
  simp only[Sem.run_bind,Sem.run_map]
  rw[h1]
  rfl
 refine⟨_,hrun,?_⟩
 match xs,vs,h2,h3 with
 | [],[],_,_=>exact .tup rfl (fun j y hy=>by simp at hy)
 | [x],[v],_,h3=>simpa [oneOr] using h3 0 x rfl
 | x::y::xs,u::v::vs,h2,h3 =>
  rw[dif_neg (by simp)]
  exact .tup (by simpa using h2) (fun j z hz=>by
   have:=h3 j z hz
   simpa [Array.getD_eq_getD_getElem?,List.getD_eq_getElem?_getD] using this)
 | [],_::_,h2,_=>simp at h2
 | [_],[],h2,_=>simp at h2
 | [_],_::_::_,h2,_=>simp at h2
 | _::_::_,[],h2,_=>simp at h2
 | _::_::_,[_],h2,_=>simp at h2

def mRet (m:Mp) (ρ:List (Option Nat)):Mp:=fun k=>match ρ.getD k none with | some b=>m b | none=>none

theorem ren1_sound {A:Nat→Prop} {ρ:List (Option Nat)} {n:Nat} {r:SV} (hs:shut1 r=true) {x:SV} {v:Value} (hr:ren1 ρ (imp1 n r).1 x) (h:OneR w A m x v):OneR w A (mRet m ρ) (imp1 n r).1 v:=by
 cases r with
 | frs sz xs =>
  simp only[imp1,ren1] at hr ⊢
  cases hρ : ρ.getD n none with
  | none =>
   rw[hρ] at hr
   obtain⟨rfl,h1,h2⟩:=hr
   cases h with
   | v _=>exact .own0 h2
  | some b =>
   rw[hρ] at hr
   simp only at hr
   subst hr
   cases h with
   | own h1 h2 h3 h4=>exact .own (by simp only[mRet,hρ];exact h1) h2 h3 h4
   | own0 h=>exact .own0 h
 | v u=>simp only[imp1,ren1] at hr ⊢;subst hr;cases h with | v h=>exact .v h
 | lst xs =>
  simp only[imp1,ren1] at hr ⊢
  subst hr
  cases h with
  | nil=>exact .nil
  | lst C hc hp hl hm hr=>exact .lst C hc hp hl hm hr
 | rptr cs =>
  simp only[imp1,ren1] at hr ⊢
  subst hr
  cases h with
  | rptr C hm hr=>exact .rptr C hm hr
 | clo f cs =>
  cases cs with
  | nil =>
   simp only[imp1,ren1] at hr ⊢
   subst hr
   cases h with
   | clo hl h=>exact .clo hl (fun j y hy=>by simp at hy)
  | cons=>simp [shut1] at hs
 | mp l =>
  simp only[imp1,ren1] at hr ⊢
  subst hr
  cases h with
  | mp h=>exact .mp h
 | omp=>simp [shut1] at hs
 | bnd=>simp [shut1] at hs
 | junk=>simp only[imp1,ren1] at hr;subst hr;cases h
 | agg=>simp [shut1] at hs
 | tup=>simp [shut1] at hs
 | own=>simp [shut1] at hs
 | ptr=>simp [shut1] at hs
 | eptr=>simp [shut1] at hs

theorem renL_sound {R R':SV→Value→Prop} {f:Nat→SV→SV×List Blk} {ok:SV→Bool} {Rn:SV→SV→Prop} (hf:∀n r x v,ok r=true→Rn (f n r).1 x→R x v→R' (f n r).1 v) :
  ∀(rs:List SV) (n:Nat) (xs:List SV),rs.all ok=true→AllR Rn (impL f n rs).1 xs→(impL f n rs).1.length=xs.length∧∀(F:Nat→Value),(∀(j:Nat) (x:SV),xs[j]?=some x→R x (F j))→∀(j:Nat) (y:SV),(impL f n rs).1[j]?=some y→R' y (F j)
 | [],n,[],_,_=>⟨rfl,fun F _ j y hy=>by simp [impL] at hy⟩
 | r::rs,n,x::xs,h,ha=>by
  simp only[List.all_cons,Bool.and_eq_true] at h
  obtain⟨h1,h2⟩:=renL_sound hf rs (n+(f n r).2.length) xs h.2 ha.2
  refine⟨by simp only[impL,List.length_cons,h1],fun F hF j y hy=>?_⟩
  simp only[impL] at hy
  cases j with
  | zero =>
   simp only[List.getElem?_cons_zero,Option.some.injEq] at hy
   subst hy
   exact hf n r x _ h.1 ha.1 (hF 0 x rfl)
  | succ j =>
   simp only[List.getElem?_cons_succ] at hy
   exact h2 (fun k=>F (k+1)) (fun k z hz=>hF (k+1) z (by simpa using hz)) j y hy
 | [],n,_::_,_,ha=>by simp [impL,AllR] at ha
 | _::_,n,[],_,ha=>by simp [impL,AllR] at ha

theorem renC_sound {A:Nat→Prop} {ρ:List (Option Nat)} {n:Nat} {r:SV} (hs:shutC r=true) {x:SV} {v:Value} (hr:renC ρ (impC n r).1 x) (h:VR w A m x v):VR w A (mRet m ρ) (impC n r).1 v:=by
 have base:∀r,shut1 r=true→(∀x,renC ρ (imp1 n r).1 x→ren1 ρ (imp1 n r).1 x)→∀x v,renC ρ (imp1 n r).1 x→VR w A m x v→VR w A (mRet m ρ) (imp1 n r).1 v:=by
  intro r hs hren x v hr h
  have hr:=hren x hr
  cases h with
  | one h=>exact .one (ren1_sound hs hr h)
  | agg=>cases r <;> simp [imp1,ren1,shut1] at hr hs <;> (split at hr <;> simp at hr)
  | tup=>cases r <;> simp [imp1,ren1,shut1] at hr hs <;> (split at hr <;> simp at hr)
  | junk =>
   cases r <;> simp [imp1,ren1,shut1] at hr hs ⊢
   ·split at hr <;> simp at hr
   ·exact .junk
 cases r with
 | agg cs =>
  simp only[impC] at hr ⊢
  cases x with
  | agg xs =>
   have hr:AllR (ren1 ρ) (impL imp1 n cs).1 xs:=hr
   obtain⟨h1,h2⟩:=renL_sound (R:=OneR w A m) (R':=OneR w A (mRet m ρ)) (ok:=shut1) (fun n r x v hs hr h=>ren1_sound hs hr h) cs n xs hs hr
   cases h with
   | one h=>cases h
   | agg hl h=>exact .agg (by rw[hl,h1]) (h2 _ h)
  | _=>simp [renC,ren1] at hr
 | v u=>exact base (.v u) hs (fun x h=>h) x v hr h
 | lst xs=>exact base (.lst xs) hs (fun x h=>h) x v hr h
 | rptr cs=>exact base (.rptr cs) hs (fun x h=>h) x v hr h
 | mp l=>exact base (.mp l) hs (fun x h=>h) x v hr h
 | omp=>simp [shutC,shut1] at hs
 | bnd=>simp [shutC,shut1] at hs
 | own=>simp [shutC,shut1] at hs
 | ptr=>simp [shutC,shut1] at hs
 | eptr=>simp [shutC,shut1] at hs
 | clo f cs=>exact base (.clo f cs) hs (fun x h=>h) x v hr h
 | tup=>simp [shutC,shut1] at hs
 | frs sz xs=>exact base (.frs sz xs) hs (fun x h=>h) x v hr h
 | junk=>exact base .junk hs (fun x h=>h) x v hr h

theorem renT_sound {A:Nat→Prop} {ρ:List (Option Nat)} {n:Nat} {r:SV} (hs:shutT r=true) {x:SV} {v:Value} (hr:renT ρ (impT n r).1 x) (h:VR w A m x v):VR w A (mRet m ρ) (impT n r).1 v:=by
 cases r with
 | tup rs =>
  simp only[impT] at hr ⊢
  cases x with
  | tup xs =>
   have hr:AllR (renC ρ) (impL impC n rs).1 xs:=hr
   obtain⟨h1,h2⟩:=renL_sound (R:=VR w A m) (R':=VR w A (mRet m ρ)) (ok:=shutC) (fun n r x v hs hr h=>renC_sound hs hr h) rs n xs hs hr
   cases h with
   | one h=>cases h
   | tup hl h=>exact .tup (by rw[hl,h1]) (h2 _ h)
  | _=>simp [renT,renC,ren1] at hr
 | v u=>exact renC_sound (n:=n) (r := .v u) hs hr h
 | lst xs=>exact renC_sound (n:=n) (r := .lst xs) hs hr h
 | rptr cs=>exact renC_sound (n:=n) (r := .rptr cs) hs hr h
 | mp l=>exact renC_sound (n:=n) (r := .mp l) hs hr h
 | omp=>simp [shutT,shutC,shut1] at hs
 | bnd=>simp [shutT,shutC,shut1] at hs
 | own=>simp [shutT,shutC,shut1] at hs
 | ptr=>simp [shutT,shutC,shut1] at hs
 | eptr=>simp [shutT,shutC,shut1] at hs
 | clo f cs=>exact renC_sound (n:=n) (r := .clo f cs) hs (by simpa [impT,impC,imp1,renT] using hr) h
 | agg cs=>exact renC_sound (n:=n) (r := .agg cs) hs (by simpa [impT,impC,renT] using hr) h
 | frs sz xs=>exact renC_sound (n:=n) (r := .frs sz xs) hs (by simpa [impT,impC,imp1,renT] using hr) h
 | junk=>exact renC_sound (n:=n) (r := .junk) hs hr h

/-! flat results hang on no memory but their own -/
def fl1:SV→Prop
 | .own ..=>True
 | y=>flat1 y=true

theorem fl1_sound {A A':Nat→Prop} {y:SV} {v:Value} (hy:fl1 y) (h:OneR w A m y v):OneR w A' m y v:=by
 cases h with
 | v h=>exact .v h
 | own h1 h2 h3 h4=>exact .own h1 h2 h3 h4
 | own0 h=>exact .own0 h
 | clo hl h =>
  rename_i f caps vs
  cases caps with
  | nil=>exact .clo hl (fun j y hy=>by simp at hy)
  | cons=>simp [fl1,flat1] at hy
 | mp=>simp [fl1,flat1] at hy
 | omp=>simp [fl1,flat1] at hy
 | bnd=>simp [fl1,flat1] at hy
 | nil=>simp [fl1,flat1] at hy
 | lst=>simp [fl1,flat1] at hy
 | rptr=>simp [fl1,flat1] at hy
 | ptr=>simp [fl1,flat1] at hy
 | eptr=>simp [fl1,flat1] at hy

theorem imp1_flat (n:Nat) (r:SV) (h:Flat1 r):fl1 (imp1 n r).1∧∀b,b ∈ (imp1 n r).2→∃sz xs,b = .arr false sz xs∧∀x,x ∈ xs→∀y,y ∈ x.cells→flat1 y=true:=by
 cases r with
 | frs sz xs=>exact⟨trivial,fun b hb=>by simp [imp1] at hb;exact⟨sz,xs,hb,h⟩⟩
 | v u=>exact⟨rfl,fun b hb=>by simp [imp1] at hb⟩
 | clo f cs =>
  cases cs with
  | nil=>exact⟨rfl,fun b hb=>by simp [imp1] at hb⟩
  | cons=>simp [Flat1,flat1] at h
 | _=>simp [Flat1,flat1] at h

theorem impL_flat {f:Nat→SV→SV×List Blk} {F G:SV→Prop} {B:Blk→Prop} (hf:∀n r,F r→G (f n r).1∧∀b,b ∈ (f n r).2→B b):∀(rs:List SV) (n:Nat),(∀r,r ∈ rs→F r)→(∀y,y ∈ (impL f n rs).1→G y)∧∀b,b ∈ (impL f n rs).2→B b
 | [],n,_=>⟨fun y hy=>by simp [impL] at hy,fun b hb=>by simp [impL] at hb⟩
 | r::rs,n,h=>by
  obtain⟨h1,h2⟩:=hf n r (h r (by simp))
  obtain⟨h3,h4⟩:=impL_flat hf rs (n+(f n r).2.length) (fun r hr=>h r (by simp [hr]))
  refine⟨fun y hy=>?_,fun b hb=>?_⟩
  ·simp only[impL,List.mem_cons] at hy
   rcases hy with rfl | hy
   ·exact h1
   ·exact h3 y hy
  ·simp only[impL,List.mem_append] at hb
   rcases hb with hb | hb
   ·exact h2 b hb
   ·exact h4 b hb

def flC:SV→Prop
 | .agg cs=>∀y,y ∈ cs→fl1 y
 | y=>fl1 y
def flT:SV→Prop
 | .tup cs=>∀y,y ∈ cs→flC y
 | y=>flC y

theorem flC_sound {A A':Nat→Prop} {y:SV} {v:Value} (hy:flC y) (h:VR w A m y v):VR w A' m y v:=by
 cases h with
 | one h =>
  have:fl1 y:=by cases h <;> first | exact hy | trivial
  exact .one (fl1_sound this h)
 | agg hl h=>exact .agg hl fun j y hyj=>fl1_sound (hy y (List.mem_of_getElem? hyj)) (h j y hyj)
 | tup=>simp [flC,fl1,flat1] at hy
 | junk=>exact .junk
theorem flT_sound {A A':Nat→Prop} {y:SV} {v:Value} (hy:flT y) (h:VR w A m y v):VR w A' m y v:=by
 cases h with
 | tup hl h=>exact .tup hl fun j y hyj=>flC_sound (hy y (List.mem_of_getElem? hyj)) (h j y hyj)
 | one h=>exact flC_sound (by cases h <;> first | exact hy | trivial) (.one h)
 | agg hl h=>exact flC_sound (A:=A) hy (.agg hl h)
 | junk=>exact .junk

abbrev FlB (b:Blk):Prop:=∃sz xs,b = .arr false sz xs∧∀x,x ∈ xs→∀y,y ∈ x.cells→flat1 y=true

theorem impC_flat (n:Nat) (r:SV) (h:FlatC r):flC (impC n r).1∧∀b,b ∈ (impC n r).2→FlB b:=by
 cases r with
 | agg cs=>exact impL_flat (F:=Flat1) (G:=fl1) (B:=FlB) imp1_flat cs n h
 | frs sz xs=>exact imp1_flat n (.frs sz xs) h
 | v u=>exact imp1_flat n (.v u) h
 | clo f cs =>
  cases cs with
  | nil=>exact imp1_flat n (.clo f []) h
  | cons=>simp [FlatC,Flat1,flat1] at h
 | _=>simp [FlatC,Flat1,flat1] at h
theorem impT_flat (n:Nat) (r:SV) (h:FlatT r):flT (impT n r).1∧∀b,b ∈ (impT n r).2→FlB b:=by
 cases r with
 | tup rs=>exact impL_flat (F:=FlatC) (G:=flC) (B:=FlB) impC_flat rs n h
 | agg cs=>exact impC_flat n (.agg cs) h
 | frs sz xs=>exact impC_flat n (.frs sz xs) h
 | v u=>exact impC_flat n (.v u) h
 | clo f cs =>
  cases cs with
  | nil=>exact impC_flat n (.clo f []) h
  | cons=>simp [FlatT,FlatC,Flat1,flat1] at h
 | _=>simp [FlatT,FlatC,Flat1,flat1] at h

end

theorem ret_sound {P:Program} {al:Bool} {res:SV} (hs:shutT res=true) (hfl:al=true∨FlatT res) {w0 w:World} {A:Nat→Prop} {n:Nat} {st:St} {a:Act} {fn:Func} (hret:RetOk P fn.results al res st)
  (hR:Rel ⟨w0.heap.size,fun g=>al=true∧A g,w0,n,fun _=>False,0,noMp⟩ st a w):∃v,(results fn a.tmps).run P w = .ok v w∧Below w0.heap.size w0 w∧ResR w0.heap.size (fun g=>g < w0.heap.size∧(al=true→A g)) w res v:=by
 obtain⟨m,hM⟩:=hR
 obtain⟨xs,ρ,h1,h2,h3,h4,h5⟩:=hret.out
 obtain⟨v,hv1,hv2⟩:=results_run hM h1
 refine⟨v,hv1,hM.below.to (fun _ h=>h),mRet m ρ,?_,?_,?_,?_⟩
 ·intro b p hp
  simp only[mRet] at hp
  cases hρ : ρ.getD b none with
  | none=>rw[hρ] at hp;cases hp
  | some c =>
   rw[hρ] at hp
   refine⟨?_,(hM.dom c p hp).2.1.resolve_right id,(hM.dom c p hp).2.2⟩
   rw[← h3]
   rcases Nat.lt_or_ge b ρ.length with h' | h'
   ·exact h'
   ·simp [List.getD_eq_getElem?_getD,List.getElem?_eq_none h'] at hρ
 all_goals
  have hget:∀k b,ρ.getD k none=some b → ρ[k]?=some (some b)∧∃x,(impT 0 res).2[k]?=some x∧hlook b st.heap=some x:=by
   intro k b hk
   have hlt:k < ρ.length:=by
    rcases Nat.lt_or_ge k ρ.length with h' | h'
    ·exact h'
    ·simp [List.getD_eq_getElem?_getD,List.getElem?_eq_none h'] at hk
   refine⟨by simpa [List.getD_eq_getElem?_getD,hlt] using hk,?_⟩
   have hk2:k < (impT 0 res).2.length:=by omega
   refine⟨(impT 0 res).2[k],by simp [hk2],?_⟩
   have:=h5 k (impT 0 res).2[k] (by simp [hk2])
   rw[hk] at this
   exact this
  have hA:∀g,((g < w0.heap.size∧(al=true→A g))∨∃b s,mRet m ρ b=some (g,s))→al=true→AOf ⟨w0.heap.size,fun g=>al=true∧A g,w0,n,fun _=>False,0,noMp⟩ st.heap m g:=by
   rintro g (⟨_,h⟩ | ⟨b,s,h⟩) hal
   ·exact .inl ⟨hal,h hal⟩
   ·simp only[mRet] at h
    cases hρ : ρ.getD b none with
    | none=>rw[hρ] at h;cases h
    | some c =>
     rw[hρ] at h
     obtain⟨_,x,_,hx⟩:=hget b c hρ
     exact .inr ⟨c,x,s,hx,h⟩
 ·intro b b' g s s' hb hb'
  simp only[mRet] at hb hb'
  cases hρ : ρ.getD b none with
  | none=>rw[hρ] at hb;cases hb
  | some c =>
   cases hρ' : ρ.getD b' none with
   | none=>rw[hρ'] at hb';cases hb'
   | some c' =>
    rw[hρ] at hb
    rw[hρ'] at hb'
    obtain⟨k1,x,_,k2⟩:=hget b c hρ
    obtain⟨k3,x',_,k4⟩:=hget b' c' hρ'
    have:=hM.inj c c' x x' g s s' k2 k4 hb hb'
    subst this
    exact h4 b b' c k1 k3
 ·intro k x hx
  obtain⟨sz,ys,rfl⟩:=impT_ro 0 res x (List.mem_of_getElem? hx)
  have:=h5 k _ hx
  cases hρ : ρ.getD k none with
  | none =>
   rw[hρ] at this
   obtain⟨sz',he,hpos⟩:=this
   cases he
   exact⟨hpos,.inl ⟨by simp only[mRet,hρ],rfl⟩⟩
  | some b =>
   rw[hρ] at this
   obtain⟨hpos,⟨q1,q2⟩ | ⟨g,C,e,q1,q2,q3,q4,q5⟩⟩:=hM.hp b _ this
   ·exact⟨hpos,.inl ⟨by simp only[mRet,hρ];exact q1,q2⟩⟩
   ·refine⟨hpos,.inr ⟨g,C,e,by simp only[mRet,hρ];exact q1,q2,q3,q4,fun i x j y hx' hy=>?_⟩⟩
    have hone:=q5 i x j y hx' hy
    rcases hfl with hal | hfl
    ·exact hone.pure _ (fun g hg=>hA g hg hal) (fun _ _ h=>h)
    ·obtain⟨_,hb⟩:=impT_flat 0 res hfl
     obtain⟨sz',ys',he,hcell⟩:=hb _ (List.mem_of_getElem? hx)
     cases he
     have hf:=hcell x (List.mem_of_getElem? hx') y (List.mem_of_getElem? hy)
     refine fl1_sound ?_ hone
     cases y <;> first | exact hf | trivial
 ·have hv3:=renT_sound hs h2 hv2
  rcases hfl with hal | hfl
  ·exact hv3.mono (fun _ _ _=>rfl) (fun g hg => .inl (hA g hg hal)) (fun _ _ h=>h) (fun _ _ h=>h)
  ·exact flT_sound (impT_flat 0 res hfl).1 hv3

theorem PC.of_T {P:Program} {f:FuncId} {fn:Func} {body:Code} {n:Nat} {al:Bool} {args:List SV} {res:SV} (hf:P.funcs[f]?=some fn) (hname:(fn.name == "runtime.NumGoroutine")=false) (hb:fn.body=some body)
  (hn:args.length+(fn.ntmps-args.length)=n) (hs:shutT res=true) (hfl:al=true∨FlatT res)
  (h:∀base B w0,T P ⟨base,B,w0,n,fun _=>False,0,noMp⟩ body (RetQ P fn.results al res) ⟨args.zipIdx.map (fun(x,i)=>(i,x)),[],0,[]⟩):PC P al f args res where
 enters:=⟨fn,hf,hname,by rw[hb];rfl⟩
 shut:=hs
 calls:=by
  intro w A vs hA hl hv
  refine calls_of_wp hf hb ?_
  have hR:Rel ⟨w.heap.size,fun g=>al=true∧A g,w,n,fun _=>False,0,noMp⟩ ⟨args.zipIdx.map (fun(x,i)=>(i,x)),[],0,[]⟩ { tmps:=vs++Array.replicate (fn.ntmps-vs.size) undef,defers:=[] } w:=by
   refine⟨noMp,BelowE.refl _ _ _,Nat.le_refl _,fun g hg=>⟨hA g hg.2,id⟩,(fun i hi=>absurd hi (Nat.not_lt_zero _)),rfl,by simp [hl,hn],?_,by simp,by simp [hlook,look],by simp,by simp [hlook,look]⟩
   intro t x hx
   have key:∀(l:List SV) (k:Nat),look t ((l.zipIdx k).map (fun(x,i)=>(i,x)))=some x→∃j,t=k+j∧l[j]?=some x:=by
    intro l
    induction l with
    | nil=>intro k h;simp [look] at h
    | cons y l ih =>
     intro k h
     rw[List.zipIdx_cons,List.map_cons,look_cons] at h
     split at h
     ·rename_i he;exact⟨0,by omega,by simpa using h⟩
     ·obtain⟨j,h1,h2⟩:=ih (k+1) h
      exact⟨j+1,by omega,by simpa using h2⟩
   obtain⟨j,h1,h2⟩:=key args 0 hx
   rw[Nat.zero_add] at h1
   subst h1
   have hlt:=lt_of_get h2
   have hval:(vs++Array.replicate (fn.ntmps-vs.size) undef).getD t undef=vs.getD t undef:=by
    simp only[Array.getD_eq_getD_getElem?]
    rw[Array.getElem?_append_left (by omega)]
   rw[hval]
   exact(hv t x h2).mono (fun _ _ _=>rfl) (fun g hg=>by
    rcases hg with hg | ⟨b,y,s,hy,_⟩
    ·exact .inl hg
    ·simp [hlook,look] at hy) (fun _ _ h=>h) (fun _ _ h=>by cases h)
  refine wp_mono (h _ _ _ _ w hR) ?_
  rintro e a' w' ⟨st',hq,hR'⟩
  have fin:RetOk P fn.results al res st'→a'.defers=[]∧∃v,(results fn a'.tmps).run P w' = .ok v w'∧∃v',(Ending.returned v) = .returned v'∧Below w.heap.size w w'∧ResR w.heap.size (fun g=>g < w.heap.size∧(al=true→A g)) w' res v':=by
   intro hret
   obtain⟨v,h1,h2,h3⟩:=ret_sound hs hfl hret hR'
   obtain⟨m,hM⟩:=hR'
   exact⟨hM.defs,v,h1,v,rfl,h2,h3⟩
  cases e with
  | normal=>exact fin hq
  | ret=>exact fin hq
  | _=>exact hq.elim

end Go.Sh
namespace Go.Sh
theorem RunT.op0 {P:Program} {cx:Cx} {ops:Array Oper} {i:Nat} {l:List Nat} {st:St} {K:St→Prop} {o:Oper} {x:SV} {u:Hp} (ho:ops[i]?=some o) (hg:o.guard=none) (hd:dstB cx.n o=true) (hal:st.al=[])
  (h:Op1 P (ev st.env) (fun b=>hlook b st.heap) st.nx o.op x u) (hn:RunT P cx ops l (st.nxt o.dst x u) K):RunT P cx ops (i::l) st K :=
 RunT.op ho hd hal (by unfold GuardIs;rw[hg]) h hn
theorem RunT.opg {P:Program} {cx:Cx} {ops:Array Oper} {i:Nat} {l:List Nat} {st:St} {K:St→Prop} {o:Oper} {x:SV} {u:Hp} {j:Nat} {b:Bool} {t:Tmp} (ho:ops[i]?=some o) (hg:o.guard=some (j,b)) (ht:(ops[j]?).bind (·.dst)=some t)
  (hv:ev st.env (.tmp t) = .v (.bool b)) (hd:dstB cx.n o=true) (hal:st.al=[])
  (h:Op1 P (ev st.env) (fun b=>hlook b st.heap) st.nx o.op x u) (hn:RunT P cx ops l (st.nxt o.dst x u) K):RunT P cx ops (i::l) st K :=
 RunT.op ho hd hal (by unfold GuardIs;rw[hg];exact⟨t,ht,.inl (by rw[hv];cases b <;> rfl)⟩) h hn
theorem RunT.no {P:Program} {cx:Cx} {ops:Array Oper} {i:Nat} {l:List Nat} {st:St} {K:St→Prop} {o:Oper} {j:Nat} {b:Bool} {t:Tmp} (ho:ops[i]?=some o) (hg:o.guard=some (j,b)) (ht:(ops[j]?).bind (·.dst)=some t)
  (hv:ev st.env (.tmp t) = .v (.bool !b)) (hd:dstB cx.n o=true) (hn:RunT P cx ops l (st.put o.dst (.tup [])) K):RunT P cx ops (i::l) st K :=
 RunT.skip ho hd (by unfold GuardIs;rw[hg];exact⟨t,ht,.inl (by rw[hv];cases b <;> rfl)⟩) hn
theorem RunT.no0 {P:Program} {cx:Cx} {ops:Array Oper} {i:Nat} {l:List Nat} {st:St} {K:St→Prop} {o:Oper} {j:Nat} {b:Bool} {t:Tmp} (ho:ops[i]?=some o) (hg:o.guard=some (j,b)) (ht:(ops[j]?).bind (·.dst)=some t)
  (hv:ev st.env (.tmp t) = .tup []) (hd:dstB cx.n o=true) (hn:RunT P cx ops l (st.put o.dst (.tup [])) K):RunT P cx ops (i::l) st K :=
 RunT.skip ho hd (by unfold GuardIs;rw[hg];exact⟨t,ht,.inr ⟨hv,rfl⟩⟩) hn
end Go.Sh
