/- What printed walks use: ends of pieces of code, results, more operations. -/
import Derived.Test.YtlfpkjlaajfjnaaShK
set_option linter.unusedVariables false
set_option linter.unusedSimpArgs false
namespace Go.Sh
open Go.RowKit

inductive Ex (α β:Type) where
 | go (a : α)
 | rt (b : β)
deriving DecidableEq
def Ex.elim {α β γ:Type} (x:Ex α β) (f : α → γ) (g : β → γ) : γ :=
 match x with
 | .go a=>f a
 | .rt b=>g b
theorem exg {α β γ:Type} {a : α} {f : α → γ} {g : β → γ} {o : γ} (h:Ex.elim (.go a) f g=o):f a=o:=h
theorem exr {α β γ:Type} {b : β} {f : α → γ} {g : β → γ} {o : γ} (h:Ex.elim (.rt b) f g=o):g b=o:=h
attribute [irreducible] Ex.elim
theorem si {α:Type} {a b : α} (h:some a=some b):a=b:=Option.some.inj h

section
variable {P:Program} {cx:Cx} {Q:Exit→St→Prop} {st:St}
theorem T.cutE {x:Code} (s1:St) (h1:T P cx x (Th (fun s=>Sub cx s s1) Q) st) (h2:∀s,Sub cx s s1→Q .normal s):T P cx x Q st:=by
 refine h1.mono ?_
 intro e s hs
 cases e with
 | normal=>exact h2 s hs
 | _=>exact hs
theorem T.cutPE {α:Type} {x:Code} (R : α→Prop) (s1 : α→St) (h1:T P cx x (Th (fun s=>∃v,R v∧Sub cx s (s1 v)) Q) st) (h2:∀v s,R v→Sub cx s (s1 v)→Q .normal s):T P cx x Q st:=by
 refine h1.mono ?_
 intro e s hs
 cases e with
 | normal=>obtain⟨v,hv,hr⟩:=hs;exact h2 v s hv hr
 | _=>exact hs
end

theorem Cv.bool {hp:Hp} {ρ:List (Option Nat)} {c b:Bool} (h:c=b):Cv hp ρ (.v (.bool c)) (.v (.bool b)):=by rw[h];exact .v
theorem Cv.v' {hp:Hp} {ρ:List (Option Nat)} {c b:Value} (h:c=b):Cv hp ρ (.v c) (.v b):=by rw[h];exact .v
theorem Cv.own' {hp:Hp} {ρ:List (Option Nat)} {b b' off len len':Nat} (h : ρ[b']?=some (some b)) (hl:len=len'):Cv hp ρ (.own b off len) (.own b' off len'):=by subst hl;exact .own h
theorem Cv.frzF {hp:Hp} {ρ:List (Option Nat)} {α:Type} {f : α→SV} {l:List α} {b sz:Nat} (h:hlook b hp=some (.arr false sz (l.map f))) (hk : ρ.elem (some b)=false):Cv hp ρ (.own b 0 l.length) (.lst (l.map f)) :=
 .frz h hk (by simp) (by rw[List.drop_zero,List.take_of_length_le (by simp)])
theorem ren1_self {ρ:List (Option Nat)} {n:Nat} (hρ:∀k,k < n → ρ.getD k none=some k) (i:Nat) (x:SV) (hx:shut1 x=true) (hl:i+(imp1 i x).2.length≤n):ren1 ρ (imp1 i x).1 (imp1 i x).1:=by
 cases x with
 | frs sz xs =>
  have:=hρ i (by simp [imp1] at hl;omega)
  simp only[imp1,ren1,this]
 | v u=>rfl
 | lst xs=>rfl
 | rptr cs=>rfl
 | mp l=>rfl
 | omp=>simp [shut1] at hx
 | bnd=>simp [shut1] at hx
 | clo f cs=>rfl
 | junk=>rfl
 | agg=>simp [shut1] at hx
 | tup=>simp [shut1] at hx
 | own=>simp [shut1] at hx
 | ptr=>simp [shut1] at hx
 | eptr=>simp [shut1] at hx
theorem renL_self {f:Nat→SV→SV×List Blk} {R:SV→SV→Prop} {ok:SV→Bool} {n:Nat} (hf:∀i x,ok x=true→i+(f i x).2.length≤n→R (f i x).1 (f i x).1):∀(xs:List SV) (i:Nat),xs.all ok=true→i+(impL f i xs).2.length≤n→AllR R (impL f i xs).1 (impL f i xs).1
 | [],_,_,_=>trivial
 | x::xs,i,h,hl=>by
  simp only[List.all_cons,Bool.and_eq_true] at h
  simp only[impL,List.length_append] at hl ⊢
  exact⟨hf i x h.1 (by omega),renL_self hf xs _ h.2 (by omega)⟩
theorem renC_self {ρ:List (Option Nat)} {n:Nat} (hρ:∀k,k < n → ρ.getD k none=some k) (i:Nat) (x:SV) (hx:shutC x=true) (hl:i+(impC i x).2.length≤n):renC ρ (impC i x).1 (impC i x).1:=by
 cases x with
 | agg cs=>exact renL_self (f:=imp1) (R:=ren1 ρ) (ok:=shut1) (ren1_self hρ) cs i hx hl
 | v u=>exact ren1_self hρ i (.v u) hx hl
 | lst xs=>exact ren1_self hρ i (.lst xs) hx hl
 | rptr cs=>exact ren1_self hρ i (.rptr cs) hx hl
 | mp l=>exact ren1_self hρ i (.mp l) hx hl
 | omp=>simp [shutC,shut1] at hx
 | bnd=>simp [shutC,shut1] at hx
 | clo f cs=>exact ren1_self hρ i (.clo f cs) hx hl
 | frs sz xs=>exact ren1_self hρ i (.frs sz xs) hx hl
 | junk=>exact ren1_self hρ i .junk hx hl
 | tup=>simp [shutC,shut1] at hx
 | own=>simp [shutC,shut1] at hx
 | ptr=>simp [shutC,shut1] at hx
 | eptr=>simp [shutC,shut1] at hx
theorem renT_self {ρ:List (Option Nat)} {n:Nat} (hρ:∀k,k < n → ρ.getD k none=some k) (x:SV) (hx:shutT x=true) (hl:(impT 0 x).2.length≤n):renT ρ (impT 0 x).1 (impT 0 x).1:=by
 cases x with
 | tup xs=>exact renL_self (f:=impC) (R:=renC ρ) (ok:=shutC) (renC_self hρ) xs 0 hx (by rw[Nat.zero_add];exact hl)
 | agg cs=>exact renC_self hρ 0 (.agg cs) hx (by rw[Nat.zero_add];exact hl)
 | v u=>exact renC_self hρ 0 (.v u) hx (by rw[Nat.zero_add];exact hl)
 | lst xs=>exact renC_self hρ 0 (.lst xs) hx (by rw[Nat.zero_add];exact hl)
 | rptr cs=>exact renC_self hρ 0 (.rptr cs) hx (by rw[Nat.zero_add];exact hl)
 | mp l=>exact renC_self hρ 0 (.mp l) hx (by rw[Nat.zero_add];exact hl)
 | omp=>simp [shutT,shutC,shut1] at hx
 | bnd=>simp [shutT,shutC,shut1] at hx
 | clo f cs=>exact renC_self hρ 0 (.clo f cs) hx (by rw[Nat.zero_add];exact hl)
 | frs sz xs=>exact renC_self hρ 0 (.frs sz xs) hx (by rw[Nat.zero_add];exact hl)
 | junk=>exact renC_self hρ 0 .junk hx (by rw[Nat.zero_add];exact hl)
 | own=>simp [shutT,shutC,shut1] at hx
 | ptr=>simp [shutT,shutC,shut1] at hx
 | eptr=>simp [shutT,shutC,shut1] at hx

theorem RetOk.same {P:Program} {al:Bool} {rs:Array ResultVar} {res:SV} {st:St} (xs:List SV) (hrs:RvL P st rs.toList xs) (hs:shutT res=true) (hx:(impT 0 res).1=oneOr xs)
  (hh:newsOf 0 (impT 0 res).2=st.heap.take (impT 0 res).2.length):RetOk P rs al res st:=by
 have hget:∀k,k < (impT 0 res).2.length→((List.range (impT 0 res).2.length).map some).getD k none=some k:=by
  intro k hk
  rw[List.getD_eq_getElem?_getD,List.getElem?_map,List.getElem?_range hk]
  rfl
 refine⟨⟨xs,(List.range (impT 0 res).2.length).map some,hrs,hx▸renT_self hget res hs (Nat.le_refl _),by simp,?_,?_⟩⟩
 ·intro i j b hi hj
  simp only[List.getElem?_map,Option.map_eq_some_iff,Option.some.injEq] at hi hj
  obtain⟨a,ha,rfl⟩:=hi
  obtain⟨c,hc,rfl⟩:=hj
  have h1:=List.getElem?_eq_some_iff.1 ha
  have h2:=List.getElem?_eq_some_iff.1 hc
  obtain⟨_,h1⟩:=h1
  obtain⟨_,h2⟩:=h2
  rw[List.getElem_range] at h1 h2
  omega
 ·intro k X hX
  have hk:=lt_of_get hX
  have e:((List.range (impT 0 res).2.length).map some).getD k none=some k:=by
   rw[List.getD_eq_getElem?_getD,List.getElem?_map,List.getElem?_range hk]
   rfl
  rw[e]
  show hlook k st.heap=some X
  have h1:look k (newsOf 0 (impT 0 res).2)=some (some X):=(look_newsOf _ 0 k (some X)).2 ⟨k,X,by omega,hX,rfl⟩
  rw[hh] at h1
  have h2:look k (st.heap.take (impT 0 res).2.length++st.heap.drop (impT 0 res).2.length)=some (some X):=by
   rw[look_append,h1];rfl
  rw[List.take_append_drop] at h2
  unfold hlook
  rw[h2]

section
variable {P:Program} {t:TypeId} {x y:Operand} {k k':IntKind} {a b:Int} (w:World)
theorem b_addw:(binS .add t x y (.int .i64 a) (.int .i64 b)).run P w = .ok (.int .i64 (wr (a+b))) w:=b_add w
theorem b_subw:(binS .sub t x y (.int .i64 a) (.int .i64 b)).run P w = .ok (.int .i64 (wr (a-b))) w:=b_sub w
theorem b_mulw:(binS .mul t x y (.int .i64 a) (.int .i64 b)).run P w = .ok (.int .i64 (wr (a * b))) w:=b_mul w
theorem c_intw {s d:TypeId} (hs:∃e,P.underlying s=some e) (hd:P.underlying d=some (.int .i64)):(convert s d (.int k a)).run P w = .ok (.int .i64 (wr a)) w:=c_int w hs hd
end
end Go.Sh
