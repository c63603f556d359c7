/- Regions: in the text's order; and in whatever order, where what is not ordered does not touch. -/
import Derived.Test.YtlfpkjlaajfjnaaShA
set_option linter.unusedVariables false
set_option linter.unusedSimpArgs false
namespace Go.Sh
open Go.RowKit

def Qn (cx:Cx) (K:St→Prop):Exit→Act→World→Prop
  | .normal,a,w=>∃st,K st∧Rel cx st a w
  | _,_,_=>False

def dstB (n:Nat) (o:Oper):Bool :=
  match o.dst with
  | none=>true
  | some t=>Nat.blt t n

theorem dstB_ok {n:Nat} {o:Oper} (h:dstB n o=true):∀t,o.dst=some t→t < n:=by
  intro t ht
  simp only[dstB,ht] at h
  exact Nat.le_of_ble_eq_true h

def GuardIs (ops:Array Oper) (E:Operand→SV) (o:Oper) (yes:Bool):Prop :=
  match o.guard with
  | none=>yes=true
  | some (j,b)=>∃t,(ops[j]?).bind (·.dst)=some t∧(E (.tmp t) = .v (.bool (b == yes))∨(E (.tmp t) = .tup []∧yes=false))

theorem GuardIs.wanted {cx:Cx} {m:Mp} {st:St} {a:Act} {w:World} {ops:Array Oper} {E:Operand→SV} {o:Oper} {yes:Bool} (hE:EvR cx m st a w E) (h:GuardIs ops E o yes):Region.wanted o (yielded ops a.tmps)=yes:=by
  unfold GuardIs at h
  unfold Region.wanted
  cases hg:o.guard with
  | none=>rw[hg] at h;simp only at h ⊢;exact h.symm
  | some p =>
    obtain⟨j,b⟩:=p
    rw[hg] at h
    simp only at h ⊢
    obtain⟨t,h1,h2⟩:=h
    rcases h2 with h2 | ⟨h3,h4⟩
    rotate_left
    · subst h4
      have hv:=hE (.tmp t)
      rw[h3] at hv
      have hu:a.tmps.getD t undef = .tuple #[]:=by
        generalize hq:a.eval (.tmp t)=q at hv
        cases hv with
        | one h=>cases h
        | tup hl h =>
          rename_i vs
          have:vs = #[]:=by simpa using hl
          subst this
          exact hq
      have hy:yielded ops a.tmps j=none:=by
        unfold yielded
        rw[h1]
        simp only[Array.getD_eq_getD_getElem?] at hu
        cases hq:a.tmps[t]? with
        | none=>simp [hq]
        | some u=>rw[hq] at hu;simp only[Option.getD_some] at hu;subst hu;simp [hq]
      rw[hy]
      rfl
    have hv:=hE.evV h2
    have hy:yielded ops a.tmps j=some (b == yes):=by
      unfold yielded
      rw[h1]
      have:a.tmps.getD t undef = .bool (b == yes):=hv
      simp only[Array.getD_eq_getD_getElem?] at this
      cases hq:a.tmps[t]? with
      | none=>rw[hq] at this;simp [undef] at this
      | some u=>rw[hq] at this;simp only[Option.getD_some] at this;subst this;simp [hq]
    rw[hy]
    cases b <;> cases yes <;> rfl

theorem Oper.upon_weaken {P:Program} {o:Oper} {a:Act} {next:Act→World→Prop} {Q:Exit→Act→World→Prop} {r:Result Next} (h:o.upon P a next (fun _ _ _=>False) r):o.upon P a next Q r:=by
  cases r with
  | ok n w' =>
    cases n <;> simp only[Oper.upon] at h ⊢ <;>
      first
        | exact h
        | (refine Calls.mono h ?_
           intro e w'' he
           cases e <;> first | exact he | exact he.elim | (obtain⟨_,_,hf⟩:=he;exact hf.elim))
  | halt x w'=>cases x <;> simp only[Oper.upon] at h ⊢ <;> exact h.elim

theorem Goes.wp {P:Program} {cx:Cx} {o:Oper} {st st':St} (h:Goes P cx o st st') {a:Act} {w:World} (hR:Rel cx st a w) {next:Act→World→Prop} {Q:Exit→Act→World→Prop} (hn:∀a w,Rel cx st' a w→next a w):o.wp P a w next Q :=
  Oper.wp_mono hn (Oper.upon_weaken (h a w hR))

theorem Rel.skip {cx:Cx} {st:St} {a:Act} {w:World} {o:Oper} (h:Rel cx st a w) (hd:dstB cx.n o=true):Rel cx (st.put o.dst (.tup [])) (a.put o.dst undef) w:=by
  obtain⟨m,h⟩:=h
  exact⟨m,h.put (dstB_ok hd) fun _ => .tup rfl (fun j y h=>by simp at h)⟩

def St.nxt (st:St) (d:Option Tmp) (x:SV) (u:Hp):St :=
  match u with
  | []=>st.put d x
  | _::_ => { env:=(st.put d x).env,heap:=u++st.heap,nx:=st.nx+8,al:=[] }

theorem Op1.keys {P:Program} {E:Operand→SV} {hp:Nat→Option Blk} {id:Nat} {o:Op} {x:SV} {u:Hp} (h:Op1 P E hp id o x u):∀k,k ∈ u.map (·.1)→(id≤k∧k < id+8)∨∃b,hp k=some b:=by
  induction h
  case callE ρ f cs ys cs' res r N N' H H' hx hc ha hH hn h hb =>
    simp only[callOk,Bool.and_eq_true] at hb
    obtain⟨⟨⟨⟨⟨⟨⟨b1,b2⟩,b3⟩,b4⟩,b5⟩,b6⟩,b7⟩,b8⟩:=hb
    exact callE_keys hH b1 b2 (Nat.le_of_ble_eq_true b3) b8
  case callB ρ f cs ys cs' res r N N' H H' hx hc ha hH hn h hb =>
    simp only[callOk,Bool.and_eq_true] at hb
    obtain⟨⟨⟨⟨⟨⟨⟨b1,b2⟩,b3⟩,b4⟩,b5⟩,b6⟩,b7⟩,b8⟩:=hb
    exact callE_keys hH b1 b2 (Nat.le_of_ble_eq_true b3) b8
  case thin h ht ih =>
    exact fun k hk=>ih k (ht.key.2 k hk)
  case frz h hb hn ih =>
    intro k hk
    simp only[List.map_cons,List.mem_cons] at hk
    rcases hk with rfl | hk
    · refine ih _ ?_
      unfold hlook at hb
      split at hb
      · rename_i y hy
        exact List.mem_map.2 ⟨_,look_mem hy,rfl⟩
      · cases hb
    · exact ih k hk
  all_goals
  intro k hk
  simp at hk <;> first
    | (subst hk;exact .inl ⟨Nat.le_refl _,by omega⟩)
    | (subst hk;exact .inr ⟨_,by assumption⟩)
    | (rcases hk with rfl | rfl
       · exact .inl ⟨Nat.le_refl _,by omega⟩
       · exact .inr ⟨_,by assumption⟩)
    | (have:=(newsOf_keys _ _ k).1 (by simpa using hk);exact .inl ⟨this.1,by omega⟩)

theorem RelM.nx_mono {cx:Cx} {m:Mp} {st:St} {a:Act} {w:World} (h:RelM cx m st a w) {n:Nat} {l:List Nat} (hle:st.nx≤n) (hn:∀b,b < st.nx∨b ∈ st.al→b < n∨b ∈ l):RelM cx m { st with nx:=n,al:=l } a w :=
  { h with pin:=fun i hi=>⟨(h.pin i hi).1,Nat.lt_of_lt_of_le (h.pin i hi).2 hle⟩,dom:=fun b p hp=>⟨hn b (h.dom b p hp).1,(h.dom b p hp).2⟩,hnx:=fun b x hx=>hn b (h.hnx b x hx) }

theorem hlook_lt {cx:Cx} {st:St} {a:Act} {w:World} (h:Rel cx st a w) {b:Nat} {x:Blk} (hb:hlook b st.heap=some x):b < st.nx∨b ∈ st.al:=by
  obtain⟨m,h⟩:=h
  exact h.hnx b x hb

def RunT (P:Program) (cx:Cx) (ops:Array Oper) (l:List Nat) (st:St) (K:St→Prop):Prop :=
  ∀a w,Rel cx st a w→wpOps P ops (Qn cx K) l a w

theorem RunT.nil {P:Program} {cx:Cx} {ops:Array Oper} {st:St} {K:St→Prop} (h:K st):RunT P cx ops [] st K:=fun a w hR=>⟨st,h,hR⟩

theorem RunT.op {P:Program} {cx:Cx} {ops:Array Oper} {i:Nat} {l:List Nat} {st:St} {K:St→Prop} {o:Oper} {x:SV} {u:Hp} (ho:ops[i]?=some o) (hd:dstB cx.n o=true) (hal:st.al=[])
    (hg:GuardIs ops (ev st.env) o true) (h:Op1 P (ev st.env) (fun b=>hlook b st.heap) st.nx o.op x u) (hn:RunT P cx ops l (st.nxt o.dst x u) K):RunT P cx ops (i::l) st K:=by
  rintro a w hR
  obtain⟨m,hM⟩:=id hR
  have hw:=hg.wanted (hM.ev)
  simp only[wpOps,ho,hw,if_true]
  refine .inl ((h.goes (fun m a w hR=>hR.ev) (dstB_ok hd) (fun _ _ h=>h) ?_).wp hR ?_)
  · intro k hk _
    unfold Fresh
    rw[hal]
    simp
    exact hk
  · intro a' w' hR'
    refine hn a' w' ?_
    have hkeys:=h.keys
    obtain⟨m',hM'⟩:=hR'
    cases u with
    | nil=>exact⟨m',hM'.nx_mono (n:=st.nx) (l:=st.al) (by cases o.dst <;> exact Nat.le_refl _) (fun b hb=>by
        rcases hb with hb | hb
        · left;cases hd':o.dst <;> simp only[St.app,St.put,hd'] at hb <;> exact hb
        · right;cases hd':o.dst <;> simp only[St.app,St.put,hd',List.map_nil,List.nil_append] at hb <;> exact hb) |> fun h=>by cases hd':o.dst <;> simp only[St.nxt,St.app,St.put,hd'] at h ⊢ <;> exact h⟩
    | cons p u =>
      refine⟨m',(hM'.nx_mono (n:=st.nx+8) (l:=[]) (by cases o.dst <;> exact Nat.le_add_right _ _) (fun b hb=>?_))⟩
      left
      rcases hb with hb | hb
      · have:b < st.nx:=by cases hd':o.dst <;> simp only[St.app,St.put,hd'] at hb <;> exact hb
        omega
      · have hb':b ∈ ((p::u).map (·.1))++st.al:=by cases hd':o.dst <;> simp only[St.app,St.put,hd'] at hb <;> exact hb
        rw[hal,List.append_nil] at hb'
        rcases hkeys b hb' with h1 | ⟨y,hy⟩
        · omega
        · have:=hlook_lt hR hy
          rw[hal] at this
          simp at this
          omega

theorem RunT.skip {P:Program} {cx:Cx} {ops:Array Oper} {i:Nat} {l:List Nat} {st:St} {K:St→Prop} {o:Oper} (ho:ops[i]?=some o) (hd:dstB cx.n o=true)
    (hg:GuardIs ops (ev st.env) o false) (hn:RunT P cx ops l (st.put o.dst (.tup [])) K):RunT P cx ops (i::l) st K:=by
  rintro a w hR
  obtain⟨m,hM⟩:=id hR
  have hw:=hg.wanted (hM.ev)
  simp only[wpOps,ho,hw,Bool.false_eq_true,if_false]
  exact hn _ _ (hR.skip hd)

/-! ### Whatever order -/
def Eqv (s t:St):Prop:=(∀k,look k s.env=look k t.env)∧(∀b,hlook b s.heap=hlook b t.heap)∧s.nx=t.nx∧∀b,b ∈ s.al ↔ b ∈ t.al

theorem Rel.eqv {cx:Cx} {s t:St} {a:Act} {w:World} (h:Rel cx s a w) (e:Eqv s t):Rel cx t a w:=by
  obtain⟨m,h⟩:=h
  obtain⟨e1,e2,e3,e4⟩:=e
  have h1:=h.congr (h':=t.heap) (al':=t.al) (fun b=>(e2 b).symm) (fun b hb=>(e4 b).1 hb)
  have h2:=h1.nx_mono (n:=t.nx) (l:=t.al) (Nat.le_of_eq e3) (fun b hb=>by simp only at hb;rwa [e3] at hb)
  exact⟨m,{ h2 with env:=fun k x hx=>h2.env k x (by show look k s.env=some x;rw[e1];exact hx) }⟩

structure It where
  i:Nat
  x:SV
  u:Hp

structure Msk where
  sw:Nat→Nat→Bool
  bw:Nat→Nat→Bool

def maskE (f:Nat→Bool):Env→Env
  | []=>[]
  | (t,x)::r=>bif f t then maskE f r else (t,x)::maskE f r
theorem look_mask (f:Nat→Bool) (k:Nat):∀e:Env,look k (maskE f e)=bif f k then none else look k e
  | []=>by cases f k <;> rfl
  | (t,x)::r=>by
    have ih:=look_mask f k r
    unfold maskE
    cases ht:f t with
    | true =>
      simp only[cond_true,ih]
      cases hk:f k with
      | true=>rfl
      | false =>
        simp only[cond_false]
        rw[look_cons,if_neg (by rintro rfl;rw[ht] at hk;cases hk)]
    | false =>
      simp only[cond_false]
      rw[look_cons,look_cons]
      by_cases h:k=t
      · subst h;simp [ht]
      · simp only[h,if_false,ih]

def evM (M:Msk) (i:Nat) (st:St):Operand→SV:=ev (maskE (M.sw i) st.env)
def hpM (M:Msk) (i:Nat) (st:St):Nat→Option Blk:=fun b=>bif M.bw i b then none else hlook b st.heap

theorem evM_R {cx:Cx} {m:Mp} {st:St} {a:Act} {w:World} (M:Msk) (i:Nat) (h:RelM cx m st a w):EvR cx m st a w (evM M i st):=by
  intro x
  cases x with
  | tmp t =>
    have:evM M i st (.tmp t)=(bif M.sw i t then none else look t st.env).getD .junk:=by unfold evM Go.Sh.ev;simp only[look_mask]
    rw[this]
    cases M.sw i t with
    | true=>exact .junk
    | false=>exact h.ev (.tmp t)
  | const c=>exact h.ev (.const c)
  | func f=>exact h.ev (.func f)
  | global g=>exact h.ev (.global g)

def idAt (n0 i:Nat):Nat:=n0+8 * i

def freshB (st:St) (id:Nat):Bool:=Nat.ble st.nx id && st.al.all fun b=>Nat.blt b id || Nat.ble (id+8) b
theorem freshB_ok {st:St} {id:Nat} (h:freshB st id=true):∀k,id≤k→k < id+8→Fresh st k:=by
  simp only[freshB,Bool.and_eq_true,List.all_eq_true,Bool.or_eq_true] at h
  obtain⟨h1,h2⟩:=h
  have h1:=Nat.le_of_ble_eq_true h1
  rintro k hk hk' (hc | hc)
  · omega
  · rcases h2 k hc with h | h
    · have:=Nat.le_of_ble_eq_true h;simp at this;omega
    · have:=Nat.le_of_ble_eq_true h;omega

def StepOk (P:Program) (cx:Cx) (ops:Array Oper) (M:Msk) (n0:Nat) (it:It) (st:St):Prop :=
  ∃o,ops[it.i]?=some o∧dstB cx.n o=true ∧
    ((GuardIs ops (evM M it.i st) o true∧Op1 P (evM M it.i st) (hpM M it.i st) (idAt n0 it.i) o.op it.x it.u∧freshB st (idAt n0 it.i)=true) ∨
     (GuardIs ops (evM M it.i st) o false∧it.x = .tup []∧it.u=[]))

def dstOf (ops:Array Oper) (i:Nat):Option Tmp:=(ops[i]?).bind (·.dst)
def St.ap (ops:Array Oper) (st:St) (it:It):St:=st.app (dstOf ops it.i) it.x it.u

def ValidD (P:Program) (cx:Cx) (ops:Array Oper) (M:Msk) (n0:Nat):List It→St→Prop
  | [],_=>True
  | it::r,st=>StepOk P cx ops M n0 it st∧ValidD P cx ops M n0 r (st.ap ops it)

def finD (ops:Array Oper):List It→St→St
  | [],st=>st
  | it::r,st=>finD ops r (st.ap ops it)

def dstIn (f:Nat→Bool):Option Tmp→Bool
  | none=>true
  | some t=>f t
def dstNe:Option Tmp→Option Tmp→Bool
  | some a,some b => !(Nat.beq a b)
  | _,_=>true

def niB (ops:Array Oper) (M:Msk) (n0:Nat) (p q:It):Bool :=
  dstIn (M.sw q.i) (dstOf ops p.i) && dstIn (M.sw p.i) (dstOf ops q.i) && dstNe (dstOf ops p.i) (dstOf ops q.i) &&
  p.u.all (fun k=>M.bw q.i k.1) && q.u.all (fun k=>M.bw p.i k.1) &&
  p.u.all (fun k=>q.u.all fun l => !(Nat.beq k.1 l.1)) &&
  p.u.all (fun k=>Nat.blt k.1 (idAt n0 q.i) || Nat.ble (idAt n0 q.i+8) k.1) && q.u.all (fun k=>Nat.blt k.1 (idAt n0 p.i) || Nat.ble (idAt n0 p.i+8) k.1)

theorem app_env (st:St) (d:Option Tmp) (x:SV) (u:Hp) (k:Nat):look k (st.app d x u).env=match d with | some t=>if k=t then some x else look k st.env | none=>look k st.env:=by
  cases d with
  | none=>rfl
  | some t=>simp only[St.app,St.put,look_cons]
theorem app_heap (st:St) (d:Option Tmp) (x:SV) (u:Hp):(st.app d x u).heap=u++st.heap:=by cases d <;> rfl
theorem app_nx (st:St) (d:Option Tmp) (x:SV) (u:Hp):(st.app d x u).nx=st.nx:=by cases d <;> rfl
theorem app_al (st:St) (d:Option Tmp) (x:SV) (u:Hp):(st.app d x u).al=u.map (·.1)++st.al:=by cases d <;> rfl

theorem hlook_out {u:Hp} {h:Hp} {b:Nat} (hb:∀k,k ∈ u→k.1 ≠ b):hlook b (u++h)=hlook b h:=by
  induction u with
  | nil=>rfl
  | cons p u ih =>
    obtain⟨j,x⟩:=p
    have hne:j ≠ b:=hb (j,x) (by simp)
    have:=ih (fun k hk=>hb k (by simp [hk]))
    unfold hlook at this ⊢
    rw[List.cons_append,look_cons,if_neg (fun e=>hne e.symm)]
    exact this

section
variable {P:Program} {cx:Cx} {ops:Array Oper} {M:Msk} {n0:Nat}

theorem evM_app {st:St} {it:It} {i:Nat} (h:dstIn (M.sw i) (dstOf ops it.i)=true):evM M i (st.ap ops it)=evM M i st:=by
  funext x
  cases x with
  | tmp t =>
    simp only[evM,Go.Sh.ev,look_mask,St.ap,app_env]
    cases hd:dstOf ops it.i with
    | none=>rfl
    | some d =>
      rw[hd] at h
      simp only[dstIn] at h
      by_cases htd:t=d
      · subst htd;simp [h]
      · simp [htd]
  | _=>rfl

theorem hpM_app {st:St} {it:It} {i:Nat} (h:it.u.all (fun k=>M.bw i k.1)=true):hpM M i (st.ap ops it)=hpM M i st:=by
  funext b
  simp only[hpM,St.ap,app_heap]
  cases hb:M.bw i b with
  | true=>rfl
  | false =>
    simp only[cond_false]
    refine hlook_out fun k hk e=>?_
    have:=List.all_eq_true.1 h k hk
    rw[e,hb] at this
    cases this

theorem freshB_app {st:St} {it:It} {id:Nat} (h:it.u.all (fun k=>Nat.blt k.1 id || Nat.ble (id+8) k.1)=true):freshB (st.ap ops it) id=freshB st id:=by
  simp only[freshB,St.ap,app_nx,app_al,List.all_append]
  have:(it.u.map (·.1)).all (fun b=>Nat.blt b id || Nat.ble (id+8) b)=true:=by
    rw[List.all_map]
    exact h
  rw[this,Bool.true_and]

theorem StepOk.app_iff {st:St} {p q:It} (h:niB ops M n0 p q=true):(StepOk P cx ops M n0 q (st.ap ops p) ↔ StepOk P cx ops M n0 q st)∧(StepOk P cx ops M n0 p (st.ap ops q) ↔ StepOk P cx ops M n0 p st):=by
  simp only[niB,Bool.and_eq_true] at h
  obtain⟨⟨⟨⟨⟨⟨⟨h1,h2⟩,h3⟩,h4⟩,h5⟩,h6⟩,h7⟩,h8⟩:=h
  constructor
  · unfold StepOk
    rw[evM_app h1,hpM_app h4,freshB_app h7]
  · unfold StepOk
    rw[evM_app h2,hpM_app h5,freshB_app h8]

theorem ap_comm {st:St} {p q:It} (h:niB ops M n0 p q=true):Eqv ((st.ap ops p).ap ops q) ((st.ap ops q).ap ops p):=by
  simp only[niB,Bool.and_eq_true] at h
  obtain⟨⟨⟨⟨⟨⟨⟨h1,h2⟩,h3⟩,h4⟩,h5⟩,h6⟩,h7⟩,h8⟩:=h
  refine⟨fun k=>?_,fun b=>?_,?_,fun b=>?_⟩
  · simp only[St.ap,app_env]
    cases hp:dstOf ops p.i <;> cases hq:dstOf ops q.i <;> simp only
    rename_i s t
    rw[hp,hq] at h3
    have hne:s ≠ t:=by
      rintro rfl
      simp [dstNe] at h3
    by_cases h1:k=t <;> by_cases h2:k=s
    · subst h1;exact absurd h2.symm hne
    all_goals simp [h1,h2]
    all_goals (try omega)
    all_goals (rw[if_neg (by omega)])
  · simp only[St.ap,app_heap]
    rw[hlook_append,hlook_append,hlook_append,hlook_append]
    cases hp:look b p.u <;> cases hq:look b q.u <;> simp only
    rename_i x y
    exfalso
    have mem:∀(u:Hp) (z:Option Blk),look b u=some z→∃k,k ∈ u∧k.1=b:=by
      intro u
      induction u with
      | nil=>intro z hz;simp [look] at hz
      | cons r u ih =>
        obtain⟨j,r⟩:=r
        intro z hz
        rw[look_cons] at hz
        split at hz
        · rename_i hj;exact⟨(j,r),by simp,hj.symm⟩
        · obtain⟨k,hk,hk'⟩:=ih z hz;exact⟨k,by simp [hk],hk'⟩
    obtain⟨k,hk,hkb⟩:=mem _ _ hp
    obtain⟨l,hl,hlb⟩:=mem _ _ hq
    have:=List.all_eq_true.1 (List.all_eq_true.1 h6 k hk) l hl
    rw[hkb,hlb] at this
    simp at this
  · simp only[St.ap,app_nx]
  · simp only[St.ap,app_al,List.mem_append]
    constructor <;> rintro (h | h | h) <;> simp [h]

theorem Eqv.ap {s t:St} (h:Eqv s t) (it:It):Eqv (s.ap ops it) (t.ap ops it):=by
  obtain⟨h1,h2,h3,h4⟩:=h
  refine⟨fun k=>?_,fun b=>?_,?_,fun b=>?_⟩
  · simp only[St.ap,app_env]
    cases dstOf ops it.i <;> simp [h1]
  · simp only[St.ap,app_heap]
    rw[hlook_append,hlook_append,h2]
  · simp only[St.ap,app_nx,h3]
  · simp only[St.ap,app_al,List.mem_append,h4]

theorem StepOk.eqv {s t:St} (h:Eqv s t) (it:It):StepOk P cx ops M n0 it s→StepOk P cx ops M n0 it t:=by
  obtain⟨h1,h2,h3,h4⟩:=h
  have e1:evM M it.i s=evM M it.i t:=by
    funext x
    cases x with
    | tmp k=>simp only[evM,Go.Sh.ev,look_mask,h1]
    | _=>rfl
  have e2:hpM M it.i s=hpM M it.i t:=by
    funext b
    simp only[hpM,h2]
  have e3:freshB s (idAt n0 it.i)=freshB t (idAt n0 it.i):=by
    rw[Bool.eq_iff_iff]
    simp only[freshB,h3,Bool.and_eq_true,List.all_eq_true,h4]
  unfold StepOk
  rw[e1,e2,e3]
  exact id

theorem ValidD.eqv:∀ {r:List It} {s t:St},Eqv s t→ValidD P cx ops M n0 r s→ValidD P cx ops M n0 r t
  | [],_,_,_,_=>trivial
  | it::r,s,t,h,hv=>⟨hv.1.eqv h,ValidD.eqv (h.ap it) hv.2⟩
theorem finD_eqv:∀ {r:List It} {s t:St},Eqv s t→Eqv (finD ops r s) (finD ops r t)
  | [],_,_,h=>h
  | it::r,s,t,h=>show Eqv (finD ops r (s.ap ops it)) (finD ops r (t.ap ops it)) from finD_eqv (h.ap it)
theorem Eqv.refl (s:St):Eqv s s:=⟨fun _=>rfl,fun _=>rfl,rfl,fun _=>Iff.rfl⟩
theorem Eqv.trans {a b c:St} (h:Eqv a b) (k:Eqv b c):Eqv a c:=⟨fun x=>(h.1 x).trans (k.1 x),fun x=>(h.2.1 x).trans (k.2.1 x),h.2.2.1.trans k.2.2.1,fun x=>(h.2.2.2 x).trans (k.2.2.2 x)⟩

theorem bubble:∀(l r:List It) (q:It) (st:St),(∀p,p ∈ l→niB ops M n0 p q=true)→ValidD P cx ops M n0 (l++q::r) st →
    StepOk P cx ops M n0 q st∧ValidD P cx ops M n0 (l++r) (st.ap ops q)∧Eqv (finD ops (l++r) (st.ap ops q)) (finD ops (l++q::r) st)
  | [],r,q,st,_,h=>⟨h.1,h.2,Eqv.refl _⟩
  | p::l,r,q,st,hn,h=>by
    have hpq:=hn p (by simp)
    obtain⟨h1,h2,h3⟩:=bubble l r q (st.ap ops p) (fun p' hp'=>hn p' (by simp [hp'])) h.2
    obtain⟨i1,i2⟩:=StepOk.app_iff (P:=P) (cx:=cx) (st:=st) hpq
    have hc:=ap_comm (st:=st) hpq
    refine⟨i1.1 h1,⟨i2.2 h.1,ValidD.eqv hc h2⟩,?_⟩
    show Eqv (finD ops (l++r) ((st.ap ops q).ap ops p)) (finD ops (l++q::r) (st.ap ops p))
    refine Eqv.trans (finD_eqv ?_) h3
    exact⟨fun k=>(hc.1 k).symm,fun b=>(hc.2.1 b).symm,hc.2.2.1.symm,fun b=>(hc.2.2.2 b).symm⟩

end
end Go.Sh
