/- A state is brought to another form: blocks take other names, lists are given up and read alone from then on, nil is an empty list; cuts of code. -/
import Derived.Test.YtlfpkjlaajfjnaaShI
set_option linter.unusedVariables false
set_option linter.unusedSimpArgs false
namespace Go.Sh
open Go.RowKit

inductive Cv (hp:Hp) (ρ:List (Option Nat)):SV→SV→Prop where
  | v {u:Value} : Cv hp ρ (.v u) (.v u)
  | nilO {b:Nat} : Cv hp ρ (.v (.slice none 0 0)) (.own b 0 0)
  | nilL:Cv hp ρ (.v (.slice none 0 0)) (.lst [])
  | lst {xs:List SV} : Cv hp ρ (.lst xs) (.lst xs)
  | rptr {cs:List SV} : Cv hp ρ (.rptr cs) (.rptr cs)
  | own {b b' off len:Nat} (h : ρ[b']?=some (some b)):Cv hp ρ (.own b off len) (.own b' off len)
  | frz {b off len sz:Nat} {xs ys:List SV} (h:hlook b hp=some (.arr false sz xs)) (hk : ρ.elem (some b)=false) (hle:off+len≤xs.length) (hy:(xs.drop off).take len=ys):Cv hp ρ (.own b off len) (.lst ys)
  | mp {l:List (Int×Int)} : Cv hp ρ (.mp l) (.mp l)
  | omp {b b':Nat} (h : ρ[b']?=some (some b)):Cv hp ρ (.omp b) (.omp b')
  | frzM {b:Nat} {l:List (Int×Int)} (h:hlook b hp=some (.mpb l)) (hk : ρ.elem (some b)=false):Cv hp ρ (.omp b) (.mp l)
  | ptr {b b' off:Nat} (h : ρ[b']?=some (some b)):Cv hp ρ (.ptr b off) (.ptr b' off)
  | eptr {b b' i off:Nat} (h : ρ[b']?=some (some b)):Cv hp ρ (.eptr b i off) (.eptr b' i off)
  | frzP {b off:Nat} {cs ys:List SV} (h:hlook b hp=some (.box cs)) (hk : ρ.elem (some b)=false) (hl:ys.length=(cs.drop off).length)
      (hr:∀(j:Nat) (x y:SV),(cs.drop off)[j]?=some x→ys[j]?=some y→Cv hp ρ x y) (ho:ys.all ro1=true):Cv hp ρ (.ptr b off) (.rptr ys)
  | clo {f:FuncId} {cs ys:List SV} (hl:ys.length=cs.length) (hr:∀(j:Nat) (x y:SV),cs[j]?=some x→ys[j]?=some y→Cv hp ρ x y):Cv hp ρ (.clo f cs) (.clo f ys)
  | bnd {f:FuncId} {cs ys:List SV} (hl:ys.length=cs.length) (hr:∀(j:Nat) (x y:SV),cs[j]?=some x→ys[j]?=some y→Cv hp ρ x y):Cv hp ρ (.bnd f cs) (.bnd f ys)

inductive CvC (hp:Hp) (ρ:List (Option Nat)):SV→SV→Prop where
  | one {x y:SV} (h:Cv hp ρ x y):CvC hp ρ x y
  | agg {cs ys:List SV} (h:AllR (Cv hp ρ) cs ys):CvC hp ρ (.agg cs) (.agg ys)
  | junk {x:SV} : CvC hp ρ x .junk

inductive CvB (hp:Hp) (ρ:List (Option Nat)):Blk→Blk→Prop where
  | box {cs ys:List SV} (h:AllR (Cv hp ρ) cs ys):CvB hp ρ (.box cs) (.box ys)
  | arr {sz:Nat} {xs ys:List SV} (h:xs=ys):CvB hp ρ (.arr false sz xs) (.arr false sz ys)
  | boxL {α:Type} {f : α→SV} {l:List α} (h:∀a,ro1 (f a)=true):CvB hp ρ (.box (l.map f)) (.box (l.map f))
  | mpb {l l':List (Int×Int)} (h:l=l'):CvB hp ρ (.mpb l) (.mpb l')
  | iter {l r:List (Int×Int)} {e:Option (Int×Int)} : CvB hp ρ (.iter l r e) (.iter l r e)
  | trunc {sz n:Nat} {xs ys:List SV} (h:xs.take n=ys):CvB hp ρ (.arr false sz xs) (.arr false sz ys)
  | arrD {d:Bool} {xs ys:List SV} (h:AllR (Cv hp ρ) xs ys) (ho:d=false→ys.all ro1=true):CvB hp ρ (.arr true 1 xs) (.arr d 1 ys)
theorem Cv.one1 {hp:Hp} {ρ:List (Option Nat)} {x y:SV} (h:Cv hp ρ x y):x.cells=[x]∧y.cells=[y]:=by cases h <;> exact⟨rfl,rfl⟩

def EnvC (hp:Hp) (ρ:List (Option Nat)) (e:Env):Env→Prop
  | []=>True
  | (t,y)::r=>(∃x,look t e=some x∧CvC hp ρ x y)∧EnvC hp ρ e r
def HpC (hp:Hp) (ρ:List (Option Nat)) (N:Nat):Hp→Prop
  | []=>True
  | (b,some X)::r=>(Nat.blt b N=true∧((∃c Y,ρ[b]?=some (some c)∧hlook c hp=some Y∧CvB hp ρ Y X)∨((ρ[b]?).join=none∧∃d sz,X = .arr d sz []∧0 < sz)))∧HpC hp ρ N r
  | (_,none)::_=>False

theorem EnvC.get {hp:Hp} {ρ:List (Option Nat)} {e:Env} : ∀ {r:Env},EnvC hp ρ e r→∀t y,look t r=some y→∃x,look t e=some x∧CvC hp ρ x y
  | [],_,t,x,h=>by simp [look] at h
  | (s,z)::r,hr,t,y,h=>by
    rw[look_cons] at h
    split at h
    · rename_i ht;subst ht;cases h;exact hr.1
    · exact EnvC.get hr.2 t y h
theorem HpC.get {hp:Hp} {ρ:List (Option Nat)} {N:Nat} : ∀ {r:Hp},HpC hp ρ N r→∀b X,hlook b r=some X→b < N∧((∃c Y,ρ[b]?=some (some c)∧hlook c hp=some Y∧CvB hp ρ Y X)∨((ρ[b]?).join=none∧∃d sz,X = .arr d sz []∧0 < sz))
  | [],_,b,x,hb=>by simp [hlook,look] at hb
  | (c,some y)::r,hr,b,x,hb=>by
    by_cases hc:b=c
    · subst hc
      unfold hlook at hb
      rw[look_cons,if_pos rfl] at hb
      cases hb
      exact⟨id1_lt hr.1.1,hr.1.2⟩
    · refine HpC.get hr.2 b x ?_
      unfold hlook at hb ⊢
      rwa [look_cons,if_neg hc] at hb
  | (_,none)::_,hr,_,_,_=>hr.elim

def mTo (m:Mp) (ρ:List (Option Nat)):Mp:=fun b=>(ρ[b]?).join.bind m

section
variable {cx:Cx} {m:Mp} {st:St} {a:Act} {w:World} {ρ:List (Option Nat)} {A':Nat→Prop}

theorem Cv.sound (h:RelM cx m st a w) (hA:∀g,A' g→cx.B g∨∃c Y s,ρ.elem (some c)=true∧hlook c st.heap=some Y∧m c=some (g,s)) {x y:SV} (he:Cv st.heap ρ x y):∀v,OneR w (AOf cx st.heap m) m x v→OneR w A' (mTo m ρ) y v:=by
  have hAA:∀g,A' g→AOf cx st.heap m g:=by
    intro g hg
    rcases hA g hg with h1 | ⟨c,Y,s,_,h2,h3⟩
    · exact .inl h1
    · exact .inr ⟨c,Y,s,h2,h3⟩
  have hnot:∀b X g s,hlook b st.heap=some X → ρ.elem (some b)=false→m b=some (g,s)→¬A' g:=by
    intro b X g s h1 h2 h3 h4
    rcases hA g h4 with h5 | ⟨c,Y,s',h5,h6,h7⟩
    · have h8:=h.bsmall g h5
      have h9:cx.base≤g∨cx.E g:=(h.dom b _ h3).2.1
      rcases h9 with h9 | h9
      · omega
      · exact h8.2 h9
    · have:=h.inj _ _ _ _ g s s' h1 h6 h3 h7
      subst this
      rw[h2] at h5
      cases h5
  have rop:∀ {mm mm':Mp} {y:SV} {v:Value},ro1 y=true→OneR w (AOf cx st.heap m) mm y v→OneR w A' mm' y v:=fun hy hv=>ro1_sound hy (hv.pure _ hAA (fun _ _ h=>h))
  induction he with
  | v=>intro v hv;cases hv with | v h=>exact .v h
  | nilO=>intro v hv;cases hv with | v h=>exact .own0 rfl
  | nilL=>intro v hv;cases hv with | v h=>exact .nil
  | lst=>intro v hv;exact rop rfl hv
  | rptr=>intro v hv;exact rop rfl hv
  | mp=>intro v hv;exact rop rfl hv
  | @omp b b' hb =>
    intro v hv
    cases hv with
    | omp h1=>exact .omp (by simp only[mTo,hb];exact h1)
  | @frzM b l hb hk =>
    intro v hv
    cases hv with
    | omp hm =>
      rename_i g s
      have hng:=hnot b _ g s hb hk hm
      obtain⟨g',s',h1,h2⟩:=h.hp b _ hb
      rw[hm] at h1
      cases h1
      exact .mp ⟨hng,h2⟩
  | @own b b' off len hb =>
    intro v hv
    cases hv with
    | own h1 h2 h3 h4=>exact .own (by simp only[mTo,hb];exact h1) h2 h3 h4
    | own0 h=>exact .own0 h
  | @frz b off len sz xs ys hb hk hle hy =>
    intro v hv
    subst hy
    have hl:((xs.drop off).take len).length=len:=by rw[List.length_take,List.length_drop];omega
    cases hv with
    | own hm hn hc hcap =>
      rename_i g s cap n
      have hng:=hnot b _ g s hb hk hm
      obtain⟨rfl,hp,C,e,h2,h3,h4,h5⟩:=(h.hp b _ hb).cell hm
      have key:∀(i:Nat) (x:SV),((xs.drop off).take len)[i]?=some x→xs[off+i]?=some x:=by
        intro i x hx
        rw[List.getElem?_take] at hx
        split at hx
        · rwa [List.getElem?_drop] at hx
        · cases hx
      have hlst:=OneR.lst (w:=w) (A:=A') (m:=mTo m ρ) (xs:=(xs.drop off).take len) (blk:=g) (off:=off * s) (c:=cap) (sz:=s) (fun i j=>C.getD ((off+i) * s+j) undef)
        (by omega) hp (fun x hx=>h4 x (List.mem_of_mem_drop (List.mem_of_mem_take hx)))
        (fun i x j y hx hy=>⟨hng,by
          have:=(h5 (off+i) x j y (key i x hx) hy).1
          rw[show off * s+(i * s+j)=(off+i) * s+j by rw[Nat.add_mul];omega]
          exact this⟩)
        (fun i x j y hx hy=>(h5 (off+i) x j y (key i x hx) hy).2.pure _ hAA (fun _ _ h=>h))
      rwa [hl] at hlst
    | own0 hz=>subst hz;simp only[List.take_zero];exact .nil
  | @ptr b b' off hb =>
    intro v hv
    cases hv with
    | ptr h1=>exact .ptr (by simp only[mTo,hb];exact h1)
  | @eptr b b' i off hb =>
    intro v hv
    cases hv with
    | eptr h1=>exact .eptr (by simp only[mTo,hb];exact h1)
  | @frzP b off cs ys hb hk hl hr ho ih =>
    intro v hv
    cases hv with
    | ptr hm =>
      rename_i g s
      have hng:=hnot b _ g s hb hk hm
      obtain⟨g',s',C,e,h1,h2,h3,h4⟩:=h.hp b _ hb
      rw[hm] at h1
      cases h1
      have key:∀(j:Nat) (y:SV),ys[j]?=some y→∃x,(cs.drop off)[j]?=some x∧cs[off+j]?=some x∧off+j < C.size:=by
        intro j y hy
        have hlt:j < (cs.drop off).length:=by
          rw[← hl];exact lt_of_get hy
        refine⟨(cs.drop off)[j],by simp [hlt],?_,?_⟩
        · rw[List.length_drop] at hlt
          rw[List.getElem_drop,List.getElem?_eq_getElem (by omega)]
        · rw[List.length_drop] at hlt;omega
      refine .rptr (fun j=>C.getD (off+j) undef) ?_ ?_
      · intro j y hy
        obtain⟨x,_,_,hlt⟩:=key j y hy
        refine⟨hng,?_⟩
        rw[cell_of_row w g (off+j) C e (0,0) h2]
        simp [hlt]
      · intro j y hy
        obtain⟨x,h5,h6,_⟩:=key j y hy
        exact ro1_sound (List.all_eq_true.1 ho y (List.mem_of_getElem? hy)) (ih j x y h5 hy _ (h4 (off+j) x h6))
  | @clo f cs ys hl hr ih =>
    intro v hv
    cases hv with
    | clo hvl hv =>
      rename_i vs
      refine .clo (by omega) ?_
      intro j y hy
      have hlt:j < cs.length:=by rw[← hl];exact lt_of_get hy
      exact ih j cs[j] y (by simp [hlt]) hy _ (hv j cs[j] (by simp [hlt]))
  | @bnd f cs ys hl hr ih =>
    intro v hv
    cases hv with
    | bnd hvl hv =>
      rename_i vs
      refine .bnd (by omega) ?_
      intro j y hy
      have hlt:j < cs.length:=by rw[← hl];exact lt_of_get hy
      exact ih j cs[j] y (by simp [hlt]) hy _ (hv j cs[j] (by simp [hlt]))

theorem CvC.sound (h:RelM cx m st a w) (hA:∀g,A' g→cx.B g∨∃c Y s,ρ.elem (some c)=true∧hlook c st.heap=some Y∧m c=some (g,s)) {x y:SV} (he:CvC st.heap ρ x y) {v:Value} (hv:VR w (AOf cx st.heap m) m x v):VR w A' (mTo m ρ) y v:=by
  cases he with
  | one he =>
    cases hv with
    | one hv=>exact .one (he.sound h hA v hv)
    | agg=>cases he
    | tup=>cases he
    | junk=>cases he
  | @agg cs ys hr =>
    cases hv with
    | one hv=>cases hv
    | agg hvl hv =>
      rename_i vs
      refine .agg (by rw[hvl,hr.len]) ?_
      intro j y hy
      have hlt:j < cs.length:=by rw[← hr.len];exact lt_of_get hy
      exact(hr.get j cs[j] y (by simp [hlt]) hy).sound h hA _ (hv j cs[j] (by simp [hlt]))
  | junk=>exact .junk

theorem nodup_idx {ρ:List (Option Nat)} (hn : ρ.Pairwise (fun a b=>a=none∨a ≠ b)) {i j c:Nat} (h1 : ρ[i]?=some (some c)) (h2 : ρ[j]?=some (some c)):i=j:=by
  have hi:=lt_of_get h1
  have hj:=lt_of_get h2
  rw[List.getElem?_eq_getElem hi] at h1
  rw[List.getElem?_eq_getElem hj] at h2
  have e1:=Option.some.inj h1
  have e2:=Option.some.inj h2
  have key:∀(i j:Nat) (hi:i < ρ.length) (hj:j < ρ.length),i < j → ρ[i]=some c → ρ[j]=some c→False:=by
    intro i j hi hj hlt e1 e2
    rcases List.pairwise_iff_getElem.1 hn i j hi hj hlt with h | h
    · rw[e1] at h;cases h
    · exact h (e1.trans e2.symm)
  rcases Nat.lt_trichotomy i j with hlt | heq | hgt
  · exact(key i j hi hj hlt e1 e2).elim
  · exact heq
  · exact(key j i hj hi hgt e2 e1).elim

theorem elem_of_get {ρ:List (Option Nat)} {i c:Nat} (h : ρ[i]?=some (some c)) : ρ.elem (some c)=true:=List.elem_eq_true_of_mem (List.mem_of_getElem? h)

def pinB:Nat→List (Option Nat)→Bool
  | 0,_=>true
  | r+1,ρ=>(match ρ[r]? with | some (some j)=>Nat.beq j r | _=>false) && pinB r ρ
theorem pinB_get {ρ:List (Option Nat)} : ∀ {r:Nat},pinB r ρ=true→∀i,i < r → ρ[i]?=some (some i)
  | 0,_,i,hi=>absurd hi (Nat.not_lt_zero _)
  | r+1,h,i,hi=>by
    simp only[pinB,Bool.and_eq_true] at h
    by_cases e:i=r
    · subst e
      have h1:=h.1
      split at h1
      · rename_i j hj;rw[hj,Nat.eq_of_beq_eq_true h1]
      · cases h1
    · exact pinB_get h.2 i (by omega)
theorem sub_to {st':St} (ρ:List (Option Nat)) (hr:pinB cx.r ρ=true) (hn : ρ.Pairwise (fun a b=>a=none∨a ≠ b)) (hl:Nat.ble ρ.length st'.nx=true) (hal:st'.al=[]) (henv:EnvC st.heap ρ st.env st'.env) (hhp:HpC st.heap ρ st'.nx st'.heap):Sub cx st st':=by
  rintro a w ⟨m,h⟩
  have hA:∀g,AOf cx st'.heap (mTo m ρ) g→cx.B g∨∃c Y s,ρ.elem (some c)=true∧hlook c st.heap=some Y∧m c=some (g,s):=by
    rintro g (hg | ⟨b,X,s,hX,hs⟩)
    · exact .inl hg
    · obtain⟨_,⟨c,Y,h1,h2,_⟩ | ⟨h1,_⟩⟩:=hhp.get b X hX
      · simp only[mTo,h1] at hs
        exact .inr ⟨c,Y,s,elem_of_get h1,h2,hs⟩
      · simp only[mTo,h1] at hs
        cases hs
  have hAA:∀g,AOf cx st'.heap (mTo m ρ) g→AOf cx st.heap m g:=by
    intro g hg
    rcases hA g hg with h1 | ⟨c,Y,s,_,h2,h3⟩
    · exact .inl h1
    · exact .inr ⟨c,Y,s,h2,h3⟩
  refine⟨mTo m ρ,h.below,h.basele,h.bsmall,(fun i hi=>⟨by
    have:=(h.pin i hi).1
    simp only[mTo,pinB_get hr i hi];exact this,Nat.lt_of_lt_of_le (lt_of_get (pinB_get hr i hi)) (Nat.le_of_ble_eq_true hl)⟩),h.defs,h.size,?_,?_,?_,?_,?_⟩
  · intro t y hy
    obtain⟨x,h1,h2⟩:=henv.get t y hy
    exact h2.sound h hA (h.env t x h1)
  · intro b p hp
    simp only[mTo] at hp
    cases hq : ρ[b]? with
    | none=>rw[hq] at hp;cases hp
    | some c =>
     cases c with
     | none=>rw[hq] at hp;cases hp
     | some c =>
      rw[hq] at hp
      exact⟨.inl (Nat.lt_of_lt_of_le (lt_of_get hq) (Nat.le_of_ble_eq_true hl)),(h.dom c p hp).2⟩
  · intro b X hX
    exact .inl (hhp.get b X hX).1
  · intro b b' X Y g s s' hX hY hs hs'
    obtain⟨_,⟨c,Z,h1,h2,_⟩ | ⟨h1,_⟩⟩:=hhp.get b X hX
    · obtain⟨_,⟨c',Z',h1',h2',_⟩ | ⟨h1',_⟩⟩:=hhp.get b' Y hY
      · simp only[mTo,h1,h1'] at hs hs'
        have:=h.inj _ _ _ _ g s s' h2 h2' hs hs'
        subst this
        exact nodup_idx hn h1 h1'
      · simp only[mTo,h1'] at hs';cases hs'
    · simp only[mTo,h1] at hs;cases hs
  · intro b X hX
    obtain⟨_,⟨c,Y,h1,h2,h3⟩ | ⟨h1,d,sz,rfl,hsz⟩⟩:=hhp.get b X hX
    · have hb:mTo m ρ b=m c:=by simp only[mTo,h1];rfl
      have hbr:=h.hp c Y h2
      cases h3 with
      | iter =>
        obtain⟨g,s,gm,seen,q1,q2,q3,q4,q5⟩:=hbr
        exact⟨g,s,gm,seen,by rw[hb,q1],q2,fun h=>q3 (hAA _ h),q4,q5⟩
      | mpb hl =>
        subst hl
        obtain⟨g,s,q1,q2⟩:=hbr
        exact⟨g,s,by rw[hb,q1],q2⟩
      | @box cs ys hcs =>
        obtain⟨g,s,C,e,q1,q2,q3,q4⟩:=hbr
        refine⟨g,s,C,e,by rw[hb,q1],q2,by rw[q3,hcs.len],fun j y hy=>?_⟩
        have hlt:j < cs.length:=by have:=lt_of_get hy;rw[hcs.len] at this;exact this
        exact(hcs.get j _ y (List.getElem?_eq_getElem hlt) hy).sound h hA _ (q4 j _ (List.getElem?_eq_getElem hlt))
      | @boxL α f l hf =>
        obtain⟨g,s,C,e,q1,q2,q3,q4⟩:=hbr
        refine⟨g,s,C,e,by rw[hb,q1],q2,q3,fun j y hy=>?_⟩
        have h5:=q4 j y hy
        rw[List.getElem?_map] at hy
        cases hl:l[j]? with
        | none=>rw[hl] at hy;cases hy
        | some z =>
          rw[hl] at hy
          simp only[Option.map_some,Option.some.injEq] at hy
          subst hy
          exact ro1_sound (hf z) (h5.pure _ hAA (fun _ _ h=>h))
      | arr he =>
        subst he
        obtain⟨hp,⟨q1,q2⟩ | ⟨g,C,e,q1,q2,q3,q4,q5⟩⟩:=hbr
        · exact⟨hp,.inl ⟨by rw[hb,q1],q2⟩⟩
        · exact⟨hp,.inr ⟨g,C,e,by rw[hb,q1],q2,q3,q4,fun i x j y hx hy=>(q5 i x j y hx hy).pure _ hAA (fun _ _ h=>h)⟩⟩
      | @arrD d xs ys hcs ho =>
        obtain⟨hp,⟨q1,q2⟩ | ⟨g,C,e,q1,q2,q3,q4,q5⟩⟩:=hbr
        · subst q2
          exact⟨hp,.inl ⟨by rw[hb,q1],List.length_eq_zero_iff.1 hcs.len⟩⟩
        · have hone:∀(i:Nat) (y:SV),ys[i]?=some y→y.cells=[y]∧OneR w (AOf cx st'.heap (mTo m ρ)) (mTo m ρ) y (C.getD i undef):=by
            intro i y hy
            have hlt:i < xs.length:=by have:=lt_of_get hy;rw[hcs.len] at this;exact this
            have hc:=hcs.get i _ y (List.getElem?_eq_getElem hlt) hy
            have h1:=q5 i xs[i] 0 xs[i] (List.getElem?_eq_getElem hlt) (by rw[hc.one1.1];rfl)
            rw[Nat.mul_one,Nat.add_zero] at h1
            exact⟨hc.one1.2,hc.sound h hA _ h1⟩
          refine⟨hp,.inr ⟨g,C,e,by rw[hb,q1],q2,by rw[hcs.len];exact q3,fun y hy=>?_,fun i x j y hx hy=>?_⟩⟩
          · obtain⟨i,hi⟩:=List.mem_iff_getElem?.1 hy
            rw[(hone i y hi).1];rfl
          · have h1:=hone i x hx
            rw[h1.1] at hy
            cases j with
            | succ j=>cases hy
            | zero =>
              cases hy
              rw[Nat.mul_one,Nat.add_zero]
              cases d
              · exact ro1_sound (List.all_eq_true.1 (ho rfl) x (List.mem_of_getElem? hx)) h1.2
              · exact h1.2
      | @trunc sz n xs ys he =>
        subst he
        obtain⟨hp,⟨q1,q2⟩ | ⟨g,C,e,q1,q2,q3,q4,q5⟩⟩:=hbr
        · exact⟨hp,.inl ⟨by rw[hb,q1],by rw[q2];simp⟩⟩
        · refine⟨hp,.inr ⟨g,C,e,by rw[hb,q1],q2,?_,fun x hx=>q4 x (List.mem_of_mem_take hx),fun i x j y hx hy=>?_⟩⟩
          · exact Nat.le_trans (Nat.mul_le_mul_right _ (by rw[List.length_take];omega)) q3
          · rw[List.getElem?_take] at hx
            split at hx
            · exact(q5 i x j y hx hy).pure _ hAA (fun _ _ h=>h)
            · cases hx
    · exact⟨hsz,.inl ⟨by simp only[mTo,h1];rfl,rfl⟩⟩
end

theorem Sub.refl {cx:Cx} {st:St} : Sub cx st st:=fun _ _ h=>h
theorem Sub.trans {cx:Cx} {a b c:St} (h:Sub cx a b) (k:Sub cx b c):Sub cx a c:=fun x w hr=>k x w (h x w hr)

/-! ### Cuts -/
section
variable {P:Program} {cx:Cx} {Q:Exit→St→Prop} {st:St}
theorem T.cut {x y:Code} (s1:St) (h1:T P cx x (Th (fun s=>Sub cx s s1) Q) st) (h2:T P cx y Q s1):T P cx (.seq x y) Q st:=by
  refine T.seq (h1.mono ?_)
  intro e s hs
  cases e with
  | normal=>exact T.sub hs h2
  | _=>exact hs
theorem RunT.sub {ops:Array Oper} {l:List Nat} {st':St} {K:St→Prop} (hs:Sub cx st st') (h:RunT P cx ops l st' K):RunT P cx ops l st K:=fun a w hR=>h a w (hs a w hR)
end

/-! ### Printed functions -/
section
variable {α β:Type}
def gd (c:Bool) (r:Option α):Option α:=bif c then r else none
def idx (xs:List α) (i:Int):Option α:=if 0≤i then xs[i.toNat]? else none
def wr (x:Int):Int:=IntKind.i64.wrap x
theorem bs {x:Option α} {f : α→Option β} {o : β} (h:x.bind f=some o):∃y,x=some y∧f y=some o:=Option.bind_eq_some_iff.1 h
theorem ct {c:Bool} {x y:Option α} {o : α} (h:cond c x y=some o) (hc:c=true):x=some o:=by subst hc;exact h
theorem cf {c:Bool} {x y:Option α} {o : α} (h:cond c x y=some o) (hc:c=false):y=some o:=by subst hc;exact h
theorem gs {c:Bool} {x:Option α} {o : α} (h:gd c x=some o):c=true∧x=some o:=by cases c with
  | true=>exact⟨rfl,h⟩
  | false=>cases h
theorem ixs {xs:List α} {i:Int} {y : α} (h:idx xs i=some y):0≤i∧xs[i.toNat]?=some y∧i < (xs.length:Int):=by
  unfold idx at h
  split at h
  · exact⟨by assumption,h,by have:=lt_of_get h;omega⟩
  · cases h
theorem ixm {xs:List α} {f : α→SV} {i:Int} {y : α} (h:xs[i.toNat]?=some y):(xs.map f)[i.toNat]?=some (f y):=by simp [h]
end
end Go.Sh
