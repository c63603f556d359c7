/- New slices and structs, stores, slices of slices, calls. -/
import Derived.Test.YtlfpkjlaajfjnaaSh6
set_option linter.unusedVariables false
set_option linter.unusedSimpArgs false
namespace Go.Sh
open Go.RowKit

section
variable {P:Program} {cx:Cx} {m:Mp} {st:St} {a:Act} {w:World} {hp:Nat→Option Blk}

theorem does_app_nil (h:RelM cx m st a w) (hhp:∀b x,hp b=some x→hlook b st.heap=some x) {id:Nat} (hf:Fresh st id) {t e tx ty:TypeId} {sz:Nat} (hS:Sl P t e sz) {d:Bool} {ys:List SV} {xv:Value} {y:SV}
  (hsrc:SrcS P hp sz d tx y ys) (hxv:OneR w (AOf cx st.heap m) m y xv) (hN:ys.length≤4294967296) :
  ∃v w' m',(Builtin.append_ #[t,tx] ty #[.slice none 0 0,xv]).run P w = .ok v w'∧RelM cx m' { st with heap:=[(id,some (.arr d sz ys))]++st.heap,al:=[id]++st.al } a w' ∧
   VR w' (AOf cx ([(id,some (.arr d sz ys))]++st.heap) m') m' (.own id 0 ys.length) v:=by
 have hA:=hsrc.adds h hhp hS.pos hxv
 rcases Nat.eq_zero_or_pos ys.length with h0 | h0
 ·have:ys=[]:=List.length_eq_zero_iff.1 h0
  subst this
  obtain⟨i,z,hi,his,hz',hzs,_,hby⟩:=hS.facts
  obtain⟨news,g1,g2,g3⟩:=hA
  have hnews:news=[]:=List.length_eq_zero_iff.1 (by rw[g1.newsLen];simp)
  subst hnews
  obtain⟨k1,k2⟩:=h.empty (id:=id) hf d hS.pos
  refine⟨.slice none 0 0,w,m,?_,k1,.one (.own0 rfl)⟩
  have hcells:=g1.cells
  simp only[List.length_nil] at hcells
  have hlen:=g1.len
  simp only[List.length_nil] at hlen
  rcases g1.kind with⟨e',hk⟩ | hk <;> simp [Builtin.append_,run_underlying hS.under,run_underlying hk,sizeOf,typeInfo,hi,his,hlen,hcells]
 ·obtain⟨v,w',m',k1,k2,k3,k4⟩:=app_grow (P:=P) (xs:=[]) (olds:=[]) (ty:=ty) h hf hS (d:=d) (base:=none) (sCap:=0) (by simp) (run_firstCells_none w.drew sz 0 0 0) (fun x hx=>by cases hx) (fun i x j z hx _=>by simp at hx) hA (by simpa using h0) (by simpa using hN)
  refine⟨v,w',m',k1,k2,?_⟩
  simpa using k3

def ZeroV (z:Value) (u:SV):Prop:=∀(w:World) (A:Nat→Prop) (m:Mp),VR w A m u z
theorem zeroC {z:Value} {u:SV} (h:ofConst z=u):ZeroV z u:=fun w A m=>h▸ofConst_VR w A m z
def StV (x y:SV):Prop:=x=y∨RoR x y
theorem StV.sound {w:World} {A:Nat→Prop} {m:Mp} {x y:SV} {v:Value} (h:StV x y) (hv:VR w A m x v):VR w A m y v:=by
 rcases h with rfl | h
 ·exact hv
 ·exact h.sound hv

theorem does_make (h:RelM cx m st a w) {id:Nat} (hf:Fresh st id) {t e:TypeId} {sz:Nat} (hS:Sl P t e sz) {d:Bool} {z:Value} {y:SV} (hz:(P.info? e).bind (fun i=>i.zero)=some z) (hy:ZeroV z y) (hys:y.cells.length=sz)
  (hro:roC y=true) {kl kc:IntKind} {n:Nat} (hn:n≤4294967296) :
  ∃v w' m',(Instr.makeSlice t (.int kl n) (.int kc n)).run P w = .ok v w'∧RelM cx m' { st with heap:=[(id,some (.arr d sz (List.replicate n y)))]++st.heap,al:=[id]++st.al } a w' ∧
   VR w' (AOf cx ([(id,some (.arr d sz (List.replicate n y)))]++st.heap) m') m' (.own id 0 n) v:=by
 obtain⟨i,z',hi,his,hz',hzs,_,hby⟩:=hS.facts
 obtain rfl:z'=z:=by simp only[hi,Option.bind_some,hz'] at hz;exact Option.some.inj hz
 have hb:(i.bytes:Int) * (n:Int)≤281474976710656:=by
  have h1:i.bytes * n≤1024 * 4294967296:=Nat.mul_le_mul hby hn
  have h2:((i.bytes * n:Nat):Int)≤281474976710656:=by omega
  rwa [Int.natCast_mul] at h2
 have hr:=run_make (P:=P) w t e i z' hS.under hi hz' kl kc n n (Int.natCast_nonneg n) (Int.le_refl _) hb (by omega)
 simp only[Int.toNat_natCast,his] at hr
 have hCs:(madeCells z'.cells (n * sz)).size=n * sz:=size_madeCells _ _
 have hyv:VR w (AOf cx st.heap m) m y z':=hy _ _ _
 have hsolid:y.solid=true:=by
  cases y <;> simp_all [roC,ro1,SV.solid]
 obtain⟨_,hyc⟩:=hyv.cells hsolid
 have hcell:∀k j,k < n→j < sz→(madeCells z'.cells (n * sz)).getD (k * sz+j) undef=z'.cells.getD j undef:=by
  intro k j hk hj
  have hlt:k * sz+j < n * sz:=by
   have:k * sz+sz≤n * sz:=by rw[← Nat.succ_mul];exact Nat.mul_le_mul_right _ hk
   omega
  have hm:(k * sz+j) % sz=j:=by rw[Nat.mul_comm,Nat.mul_add_mod,Nat.mod_eq_of_lt hj]
  simp only[madeCells,Array.getD_eq_getD_getElem?]
  simp [hlt,hzs,hm,hj,getElem!_def]
 generalize madeCells z'.cells (n * sz)=C at hr hCs hcell
 obtain⟨m',h3,h4,h5,h6⟩:=h.alloc (id:=id) (s:=sz) (x := .arr d sz (List.replicate n y)) hf C e (fun w' A' m' hm' hw' k1 k2=>by
  refine⟨hS.pos,.inr ⟨w.heap.size,C,e,hm',hw',?_,?_,?_⟩⟩
  ·rw[hCs,List.length_replicate];exact Nat.le_refl _
  ·intro x hx
   rw[List.eq_of_mem_replicate hx];exact hys
  ·intro k x j u hx hu
   have hk:k < n:=by
    rcases Nat.lt_or_ge k (List.replicate n y).length with h' | h'
    ·simpa using h'
    ·rw[List.getElem?_eq_none h'] at hx;cases hx
   have hxe:x=y:=List.eq_of_mem_replicate (List.mem_of_getElem? hx)
   subst hxe
   have hj:j < sz:=by
    rw[← hys]
    rcases Nat.lt_or_ge j x.cells.length with h' | h'
    ·exact h'
    ·rw[List.getElem?_eq_none h'] at hu;cases hu
   rw[hcell k j hk hj]
   have:=hyc j u hu
   cases d
   ·refine k2 _ _ (ro1_sound ?_ this)
    cases x with
    | agg cs=>exact List.all_eq_true.1 hro u (List.mem_of_getElem? hu)
    | _ =>
     cases j with
     | zero=>simp [SV.cells] at hu;subst hu;exact hro
     | succ j=>simp [SV.cells] at hu
   ·exact k1 _ _ this)
 refine⟨_,_,m',hr,h3,.one ?_⟩
 have:(.slice (some ⟨w.heap.size,0,none⟩) n n:Value) = .slice (some ⟨w.heap.size,0 * sz,none⟩) n n:=by rw[Nat.zero_mul]
 rw[this]
 exact .own h4 h5 (by rw[hCs,Nat.zero_add];exact Nat.le_refl _) (Nat.le_refl _)

/-! ### Stores -/
theorem does_storeP (h:RelM cx m st a w) (hhp:∀b x,hp b=some x→hlook b st.heap=some x) {t:TypeId} {sz:Nat} {agg:Bool} (hT:Ty P t sz agg) {b off:Nat} {cs:List SV} {z:SV} {pv v:Value}
  (hx:OneR w (AOf cx st.heap m) m (.ptr b off) pv) (hb:hp b=some (.box cs)) (hz:VR w (AOf cx st.heap m) m z v) (hs:z.solid=true) (hl:z.cells.length=sz) (ho:off+sz≤cs.length) :
  ∃w',(Instr.storeAt t pv v).run P w = .ok () w'∧RelM cx m { st with heap:=[(b,some (.box (splL cs off z.cells)))]++st.heap,al:=[b]++st.al } a w':=by
 obtain⟨hvs,hvc⟩:=hz.cells hs
 cases hx with
 | ptr hm =>
  rename_i g s
  obtain⟨g',s',C,e,h1,h2,h3,h4⟩:=h.hp b _ (hhp b _ hb)
  rw[hm] at h1
  cases h1
  have hone:∀u,u ∈ v.cells.toList→one u=true:=by
   intro u hu
   obtain⟨k,hk,rfl⟩:=List.getElem_of_mem hu
   have hk':k < z.cells.length:=by rw[← hvs];simpa using hk
   have:=(hvc k z.cells[k] (by simp [hk'])).isOne
   simpa [show k < v.cells.size by rw[hvs];exact hk'] using this
  have hr:=run_storeAt (P:=P) hT h2 (by rw[hvs,hl]) (o:=off) (by omega) hone
  have hfit:off+v.cells.toList.length≤C.size:=by simp [hvs,hl];omega
  obtain⟨r1,r2⟩:=h.upd (x' := .box (splL cs off z.cells)) (hhp b _ hb) hm h2 (spl_size v.cells.toList C off) (fun w' A' hw' k1 k2=>by
   refine⟨g,s,_,e,hm,hw',by rw[spl_size,splL_length,h3],?_⟩
   intro j y hy
   rw[splL_get _ _ _ _ (by omega)] at hy
   rw[spl_getD _ _ _ _ hfit]
   have hlen:v.cells.toList.length=z.cells.length:=by simp [hvs]
   by_cases hc:off≤j∧j < off+z.cells.length
   ·rw[if_pos hc] at hy
    rw[if_pos (by rw[hlen];exact hc)]
    have:=k1 _ _ (hvc (j-off) y hy)
    simpa using this
   ·rw[if_neg hc] at hy
    rw[if_neg (by rw[hlen];exact hc)]
    exact k1 _ _ (h4 j y hy))
  exact⟨_,hr,r1.congr (fun _=>rfl) (fun c hc=>List.mem_cons_of_mem _ hc)⟩

theorem reC_cells {y:SV} {l:List SV} (hl:l.length=y.cells.length) (h1:∀z,z ∈ l→z.cells=[z]):(reC y l).cells=l:=by
 cases y with
 | agg cs=>rfl
 | _ =>
  cases l with
  | nil=>simp [SV.cells] at hl
  | cons z r =>
   have hr:r=[]:=List.length_eq_zero_iff.1 (by simpa [SV.cells] using hl)
   subst hr
   simpa [reC] using h1 z (by simp)

theorem does_storeE (h:RelM cx m st a w) (hhp:∀b x,hp b=some x→hlook b st.heap=some x) {t:TypeId} {sz:Nat} {agg:Bool} (hT:Ty P t sz agg) {b i off s:Nat} {d:Bool} {xs:List SV} {y z:SV} {pv v:Value}
  (hx:OneR w (AOf cx st.heap m) m (.eptr b i off) pv) (hb:hp b=some (.arr d s xs)) (hi:xs[i]?=some y) (hz:VR w (AOf cx st.heap m) m z v) (hs:z.solid=true) (hl:z.cells.length=sz) (ho:off+sz≤y.cells.length)
  (hro:d=false→roC z=true) :
  ∃w',(Instr.storeAt t pv v).run P w = .ok () w'∧RelM cx m { st with heap:=[(b,some (.arr d s (xs.set i (reC y (splL y.cells off z.cells)))))]++st.heap,al:=[b]++st.al } a w':=by
 obtain⟨hvs,hvc⟩:=hz.cells hs
 have hvc':∀(j:Nat) (u:SV),z.cells[j]?=some u→OneR w (AOf cx st.heap m) (if d then m else noMp) u (v.cells.getD j undef):=by
  intro j u hu
  have:=hvc j u hu
  cases d
  ·refine ro1_sound ?_ this
   have hr:=hro rfl
   cases z with
   | agg cs=>exact List.all_eq_true.1 hr u (List.mem_of_getElem? hu)
   | _ =>
    cases j with
    | zero=>simp [SV.cells] at hu;subst hu;exact hr
    | succ j=>simp [SV.cells] at hu
  ·exact this
 cases hx with
 | eptr hm =>
  rename_i g s'
  obtain⟨rfl,hp',C,e,h2,h3,h4,h5⟩:=(h.hp b _ (hhp b _ hb)).cell hm
  have hil:i < xs.length:=by
   rcases Nat.lt_or_ge i xs.length with h' | h'
   ·exact h'
   ·rw[List.getElem?_eq_none h'] at hi;cases hi
  have hyl:=h4 y (List.mem_of_getElem? hi)
  have hone:∀u,u ∈ v.cells.toList→one u=true:=by
   intro u hu
   obtain⟨k,hk,rfl⟩:=List.getElem_of_mem hu
   have hk':k < z.cells.length:=by rw[← hvs];simpa using hk
   have:=(hvc k z.cells[k] (by simp [hk'])).isOne
   simpa [show k < v.cells.size by rw[hvs];exact hk'] using this
  have h6:i * s'+s'≤xs.length * s':=by rw[← Nat.succ_mul];exact Nat.mul_le_mul_right _ hil
  have hr:=run_storeAt (P:=P) hT h2 (by rw[hvs,hl]) (o:=i * s'+off) (by omega) hone
  have hlen:v.cells.toList.length=z.cells.length:=by simp [hvs]
  have hfit:i * s'+off+v.cells.toList.length≤C.size:=by rw[hlen,hl];omega
  have hsolo:∀u,u ∈ splL y.cells off z.cells→u.cells=[u]:=by
   intro u hu
   obtain⟨k,hk⟩:=List.getElem?_of_mem hu
   rw[splL_get _ _ _ _ (by omega)] at hk
   split at hk
   ·exact(hvc _ u hk).cells'
   ·exact(h5 i y k u hi hk).2.cells'
  have hre:=reC_cells (y:=y) (l:=splL y.cells off z.cells) (splL_length _ _ _) hsolo
  obtain⟨r1,r2⟩:=h.upd (x' := .arr d s' (xs.set i (reC y (splL y.cells off z.cells)))) (hhp b _ hb) hm h2 (spl_size v.cells.toList C (i * s'+off)) (fun w' A' hw' k1 k2=>by
   have k3:∀y v,OneR w (AOf cx st.heap m) (if d then m else noMp) y v→OneR w' A' (if d then m else noMp) y v:=by cases d;exact k2;exact k1
   refine⟨hp',.inr ⟨g,_,e,hm,hw',by rw[spl_size,List.length_set];exact h3,?_,?_⟩⟩
   ·intro x hx
    rcases List.mem_or_eq_of_mem_set hx with hx | rfl
    ·exact h4 x hx
    ·rw[hre,splL_length];exact hyl
   ·intro k x j u hx hu
    have hgen:∀val,(k=i→val=(spl C (i * s'+off) v.cells.toList).getD (i * s'+j) undef)→True:=fun _ _=>trivial
    by_cases hki:k=i
    ·subst hki
     rw[List.getElem?_set_self hil] at hx
     cases hx
     rw[hre] at hu
     have hj:j < y.cells.length:=by
      rw[← splL_length z.cells y.cells off]
      rcases Nat.lt_or_ge j (splL y.cells off z.cells).length with h' | h'
      ·exact h'
      ·rw[List.getElem?_eq_none h'] at hu;cases hu
     rw[splL_get _ _ _ _ (by omega)] at hu
     by_cases hc:off≤j∧j < off+z.cells.length
     ·rw[if_pos hc] at hu
      have hval:(spl C (k * s'+off) v.cells.toList).getD (k * s'+j) undef=v.cells.getD (j-off) undef:=by
       rw[spl_getD _ _ _ _ hfit,if_pos (by rw[hlen];omega),show k * s'+j-(k * s'+off)=j-off by omega]
       simp
      rw[hval]
      exact k3 _ _ (hvc' (j-off) u hu)
     ·rw[if_neg hc] at hu
      have hval:(spl C (k * s'+off) v.cells.toList).getD (k * s'+j) undef=C.getD (k * s'+j) undef:=by
       rw[spl_getD _ _ _ _ hfit,if_neg (by rw[hlen];omega)]
      rw[hval]
      exact k3 _ _ (h5 k y j u hi hu).2
    ·rw[List.getElem?_set_ne (fun e=>hki e.symm)] at hx
     have hkl:k < xs.length:=by
      rcases Nat.lt_or_ge k xs.length with h' | h'
      ·exact h'
      ·rw[List.getElem?_eq_none h'] at hx;cases hx
     have hj:j < s':=by
      rw[← h4 x (List.mem_of_getElem? hx)]
      rcases Nat.lt_or_ge j x.cells.length with h' | h'
      ·exact h'
      ·rw[List.getElem?_eq_none h'] at hu;cases hu
     have hval:(spl C (i * s'+off) v.cells.toList).getD (k * s'+j) undef=C.getD (k * s'+j) undef:=by
      rw[spl_getD _ _ _ _ hfit,if_neg]
      rw[hlen]
      rintro ⟨q1,q2⟩
      rcases Nat.lt_or_gt_of_ne hki with hlt | hgt
      ·have:k * s'+s'≤i * s':=by rw[← Nat.succ_mul];exact Nat.mul_le_mul_right _ hlt
       omega
      ·have:i * s'+s'≤k * s':=by rw[← Nat.succ_mul];exact Nat.mul_le_mul_right _ hgt
       omega
     rw[hval]
     exact k3 _ _ (h5 k x j u hx hu).2)
  exact⟨_,hr,r1.congr (fun _=>rfl) (fun c hc=>List.mem_cons_of_mem _ hc)⟩

end
end Go.Sh
