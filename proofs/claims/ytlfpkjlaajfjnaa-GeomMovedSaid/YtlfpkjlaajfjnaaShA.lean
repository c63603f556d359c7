/- The operations of the shadow, all together, and that the model's do the same. -/
import Derived.Test.YtlfpkjlaajfjnaaShR
import Derived.Laws.BytesString
import Derived.Laws.Cells
set_option linter.unusedVariables false
set_option linter.unusedSimpArgs false
namespace Go.Sh
open Go.RowKit

def SV.lone:SV→Bool
 | .agg _ | .tup _ | .junk | .frs ..=>false
 | _=>true

def b8 (n:Int):SV := .v (.int .u8 n)
def strOf (ns:List Int):ByteArray:=ns.foldl (fun r n=>r.push (UInt8.ofNat n.toNat)) ByteArray.empty

theorem str_cells {P:Program} {w:World} {g o c:Nat} {ns:List Int} (h:∀(j:Nat) (n:Int),ns[j]?=some n→w.cell? ⟨g,o+j,none⟩=some (.int .u8 n)) :
  (Conv.bytesToString (.slice (some ⟨g,o,none⟩) ns.length c)).run P w = .ok (.string (strOf ns)) w:=by
 refine run_bytesToString w _ _ _ ns ?_
 have:=run_loadCells_list (P:=P) w ⟨g,o,none⟩ (ns.map (Value.int .u8)) (fun j v hv=>by
  simp only[List.getElem?_map,Option.map_eq_some_iff] at hv
  obtain⟨n,hn,rfl⟩:=hv
  have:=h j n hn
  have e:(⟨g,o,none⟩:Addr).add j=⟨g,o+j,none⟩:=by
   unfold Addr.add
   split
   ·simp [*]
   ·rfl
  rw[e]
  exact this)
 simpa using this

theorem does_str {P:Program} {cx:Cx} {m:Mp} {st:St} {a:Act} {w:World} {hp:Nat→Option Blk} {s e:TypeId} {d:Bool} {u:SV} {v:Value} {ns:List Int} (hR:RelM cx m st a w) (hhp:∀b x,hp b=some x→hlook b st.heap=some x)
  (hs:P.underlying s=some (.slice e)) (h:SrcS P hp 1 d s u (ns.map b8)) (hv:OneR w (AOf cx st.heap m) m u v):(Conv.bytesToString v).run P w = .ok (.string (strOf ns)) w:=by
 have hnil:∀(q:Option Addr) (c:Nat),(Conv.bytesToString (.slice q 0 c)).run P w = .ok (.string (strOf [])) w:=by
  intro q c
  cases q with
  | none=>rfl
  | some q=>exact run_bytesToString w q 0 c [] (by simpa using run_loadCells_list (P:=P) w q [] (fun j v h=>by simp at h))
 generalize hys:ns.map b8=ys at h
 cases h with
 | lst hk hl =>
  subst hys
  generalize hq:ns.map b8=q at hv
  cases hv with
  | nil =>
   obtain rfl:ns=[]:=by simpa using hq
   exact hnil _ _
  | lst C hc hp' hl' hm hr =>
   rename_i blk off c sz'
   subst hq
   rw[List.length_map]
   refine str_cells fun j n hn=>?_
   have hj:(ns.map b8)[j]?=some (b8 n):=by simp [hn]
   have h1:sz'=1:=by
    have h2:=hl' _ (List.mem_of_getElem? hj)
    have h3:=hl _ (List.mem_of_getElem? hj)
    omega
   subst h1
   have h4:=(hm j (b8 n) 0 (b8 n) hj rfl).2
   have h5:=hr j (b8 n) 0 (b8 n) hj rfl
   generalize C j 0=z at h4 h5
   unfold b8 at h5
   cases h5
   simpa using h4
 | own hk hb hle hy hd =>
  rename_i e' b off len d' xs
  have hlen:ns.length=len:=by
   have:=congrArg List.length (hys.trans hy.symm)
   simp only[List.length_map,List.length_take,List.length_drop] at this
   omega
  cases hv with
  | own0 hz =>
   obtain rfl:ns=[]:=by
    apply List.eq_nil_of_length_eq_zero
    omega
   exact hnil _ _
  | own hm hn hc hcap =>
   rename_i g sz cap n
   obtain⟨rfl,hp',C,e'',h2,h3,h4,h5⟩:=(hR.hp b _ (hhp b _ hb)).cell hm
   rw[← hlen]
   refine str_cells fun j k hk=>?_
   have hj:(ns.map b8)[j]?=some (b8 k):=by simp [hk]
   rw[hys,← hy,List.getElem?_take] at hj
   split at hj
   ·rw[List.getElem?_drop] at hj
    obtain⟨h6,h7⟩:=h5 (off+j) (b8 k) 0 (b8 k) hj rfl
    generalize C.getD ((off+j) * 1+0) undef=z at h6 h7
    unfold b8 at h7
    cases h7
    simpa [Nat.mul_one] using h6
   ·cases hj
 | nil hk =>
  obtain rfl:ns=[]:=by simpa using hys
  cases hv
  exact hnil _ _
 | str hk =>
  rw[hs] at hk
  cases hk

theorem run_toStr {P:Program} {s d e:TypeId} {v:Value} {w:World} {r:ByteArray} (hs:P.underlying s=some (.slice e)) (he:P.underlying e=some (.int .u8)) (hd:P.underlying d=some .string) (hv:∃q l c,v = .slice q l c)
  (h:(Conv.bytesToString v).run P w = .ok (.string r) w):(convert s d v).run P w = .ok (.string r) w:=by
 obtain⟨q,l,c,rfl⟩:=hv
 simp [convert,run_underlying hs,run_underlying he,run_underlying hd,h]

def isPtr:SV→Bool
 | .rptr _ | .ptr .. | .eptr ..=>true
 | _=>false
inductive Op1 (P:Program) (ev:Operand→SV) (hp:Nat→Option Blk) (id:Nat):Op→SV→Hp→Prop where
 | move {x:Operand} : Op1 P ev hp id (.move x) (ev x) []
 | assign {x:Operand} : Op1 P ev hp id (.assign x) (ev x) []
 | pick {c x y:Operand} {t:Bool} (h:ev c = .v (.bool t)):Op1 P ev hp id (.pick c x y) (bif t then ev x else ev y) []
 | bin {op:BinOp} {t ty:TypeId} {x y:Operand} {a b r:Value} (hx:ev x = .v a) (hy:ev y = .v b) (hr:∀w,(binS op t x y a b).run P w = .ok r w) (h1:one r=true):Op1 P ev hp id (.binOp op t x y ty) (.v r) []
 | binA {op:BinOp} {t ty:TypeId} {x y:Operand} {us vs:List Value} {r:Value} (hx:ev x = .agg (us.map .v)) (hy:ev y = .agg (vs.map .v)) (hr:∀w,(binS op t x y (.agg us.toArray) (.agg vs.toArray)).run P w = .ok r w) (h1:one r=true):Op1 P ev hp id (.binOp op t x y ty) (.v r) []
 | un {op:UnOp} {t:TypeId} {x:Operand} {a r:Value} (hx:ev x = .v a) (hr:∀w,(Op.unary op a).run P w = .ok r w) (h1:one r=true):Op1 P ev hp id (.unOp op t x) (.v r) []
 | conv {s t:TypeId} {x:Operand} {a r:Value} (hx:ev x = .v a) (hr:∀w,(convert s t a).run P w = .ok r w) (h1:one r=true):Op1 P ev hp id (.convert s t x) (.v r) []
 | box {t:TypeId} {x:Operand} {y:SV} (hx:ev x=y) (hs:y.solid=true):Op1 P ev hp id (.box t x) (.ptr id 0) [(id,some (.box y.cells))]
 | alloc {t:TypeId} {z:Value} {y:SV} (hz:(P.info? t).bind (fun i=>i.zero)=some z) (hy:ZeroV z y) (hs:y.solid=true):Op1 P ev hp id (.alloc t) (.ptr id 0) [(id,some (.box y.cells))]
 | loadP {t:TypeId} {sz:Nat} {agg:Bool} {x:Operand} {b off:Nat} {cs:List SV} {r:SV} (hT:Ty P t sz agg) (hx:ev x = .ptr b off) (hb:hp b=some (.box cs)) (hr:ldF agg sz cs off=some r):Op1 P ev hp id (.load t x) r []
 | loadE {t:TypeId} {sz:Nat} {agg:Bool} {x:Operand} {b i off s:Nat} {d:Bool} {xs:List SV} {y r:SV} (hT:Ty P t sz agg) (hx:ev x = .eptr b i off) (hb:hp b=some (.arr d s xs)) (hi:xs[i]?=some y) (hr:ldF agg sz y.cells off=some r):Op1 P ev hp id (.load t x) r []
 | loadR {t:TypeId} {sz:Nat} {agg:Bool} {x:Operand} {cs:List SV} {r:SV} (hT:Ty P t sz agg) (hx:ev x = .rptr cs) (hr:ldF agg sz cs 0=some r):Op1 P ev hp id (.load t x) r []
 | fieldP {s:TypeId} {x:Operand} {f k b off:Nat} (hF:Fld P s f k) (hx:ev x = .ptr b off):Op1 P ev hp id (.fieldAddr s x f) (.ptr b (off+k)) []
 | fieldE {s:TypeId} {x:Operand} {f k b i off:Nat} (hF:Fld P s f k) (hx:ev x = .eptr b i off):Op1 P ev hp id (.fieldAddr s x f) (.eptr b i (off+k)) []
 | fieldR {s:TypeId} {x:Operand} {f k:Nat} {cs:List SV} (hF:Fld P s f k) (hx:ev x = .rptr cs):Op1 P ev hp id (.fieldAddr s x f) (.rptr (cs.drop k)) []
 | idxL {t e:TypeId} {sz:Nat} {x ix:Operand} {xs:List SV} {y:SV} {k:IntKind} {i:Int} (hS:Sl P t e sz) (hx:ev x = .lst xs) (hi:ev ix = .v (.int k i)) (h0:0≤i) (hy:xs[i.toNat]?=some y) (hs:y.cells.length=sz):Op1 P ev hp id (.indexAddr t x ix) (.rptr y.cells) []
 | idxO {t e:TypeId} {sz:Nat} {x ix:Operand} {b off len:Nat} {d:Bool} {xs:List SV} {k:IntKind} {i:Int} (hS:Sl P t e sz) (hx:ev x = .own b off len) (hb:hp b=some (.arr d sz xs)) (hi:ev ix = .v (.int k i)) (h0:0≤i) (hl:i < len):Op1 P ev hp id (.indexAddr t x ix) (.eptr b (off+i.toNat) 0) []
 | idxA {t:TypeId} {n sz:Nat} {x ix:Operand} {b off:Nat} {k:IntKind} {i:Int} (hA:Ar P t n sz) (hx:ev x = .ptr b off) (hi:ev ix = .v (.int k i)) (h0:0≤i) (hl:i < n):Op1 P ev hp id (.indexAddr t x ix) (.ptr b (off+i.toNat * sz)) []
 | index {t:TypeId} {x ix:Operand} {a b r:Value} (hx:ev x = .v a) (hi:ev ix = .v b) (hr:∀w,(Instr.index t a b).run P w = .ok r w) (h1:one r=true):Op1 P ev hp id (.index t x ix) (.v r) []
 | lenL {t e:TypeId} {x:Operand} {xs:List SV} {ts:Array TypeId} (hS:P.underlying t=some (.slice e)) (hx:ev x = .lst xs) (ht:ts[0]?=some t):Op1 P ev hp id (.call ⟨.builtin .len,#[x],ts⟩) (.v (.int .i64 xs.length)) []
 | lenO {t e:TypeId} {x:Operand} {b off len:Nat} {ts:Array TypeId} (hS:P.underlying t=some (.slice e)) (hx:ev x = .own b off len) (ht:ts[0]?=some t):Op1 P ev hp id (.call ⟨.builtin .len,#[x],ts⟩) (.v (.int .i64 len)) []
 | lenV {x:Operand} {ts:Array TypeId} {a r:Value} (hx:ev x = .v a) (hr:∀ty w,(Builtin.len_ ts ty #[a]).run P w = .ok r w) (h1:one r=true):Op1 P ev hp id (.call ⟨.builtin .len,#[x],ts⟩) (.v r) []
 | min {x y:Operand} {ts:Array TypeId} {k k':IntKind} {a b:Int} (hx:ev x = .v (.int k a)) (hy:ev y = .v (.int k' b)):Op1 P ev hp id (.call ⟨.builtin .min,#[x,y],ts⟩) (.v (.int k (if b < a then b else a))) []
 | max {x y:Operand} {ts:Array TypeId} {k k':IntKind} {a b:Int} (hx:ev x = .v (.int k a)) (hy:ev y = .v (.int k' b)):Op1 P ev hp id (.call ⟨.builtin .max,#[x,y],ts⟩) (.v (.int k (if b > a then b else a))) []
 | extract {x:Operand} {ix:Nat} {xs:List SV} {y:SV} (hx:ev x = .tup xs) (hy:xs[ix]?=some y):Op1 P ev hp id (.extract x ix) y []
 | mkfunc {f:FuncId} {cap:Array Operand} {ys:List SV} (hy:cap.toList.map ev=ys) (h1:ys.all SV.lone=true):Op1 P ev hp id (.makeFunc (.func f) #[] cap) (.clo f ys) []
 | call {al:Bool} {x:Operand} {args:Array Operand} {ts:Array TypeId} {f:FuncId} {cs ys cs':List SV} {res:SV} (hx:ev x = .clo f cs) (hc:AllR (ArgOk hp al) cs cs') (ha:AllR (ArgOk hp al) (args.toList.map ev) ys)
   (h:PC P al f (ys++cs') res) (h8:(impT 0 res).2.length≤8):Op1 P ev hp id (.call ⟨.value x,args,ts⟩) (impT id res).1 (newsOf id (impT 0 res).2)
 | callE {x:Operand} {args:Array Operand} {ts:Array TypeId} {ρ:List (Option Nat)} {f:FuncId} {cs ys cs':List SV} {res:SV} {r N N':Nat} {H H':Hp} (hx:ev x = .clo f cs) (hc:AllR (Ca ρ) cs cs') (ha:AllR (CaC ρ) (args.toList.map ev) ys)
   (hH:HpA hp ρ N H) (hn : ρ.Pairwise (fun a b=>a=none∨a ≠ b)) (h:PE P f (ys++cs') r N H res N' H') (hb:callOk ρ r H res N' H'=true):Op1 P ev hp id (.call ⟨.value x,args,ts⟩) (sgT (sgm ρ r id) res) (news (sgm ρ r id) H'++drops (ρ.drop r))
 | mkbnd {f:FuncId} {first:Array Operand} {ys:List SV} (hy:first.toList.map ev=ys) (h1:ys.all SV.lone=true):Op1 P ev hp id (.makeFunc (.func f) first #[]) (.bnd f ys) []
 | callB {x:Operand} {args:Array Operand} {ts:Array TypeId} {ρ:List (Option Nat)} {f:FuncId} {cs ys cs':List SV} {res:SV} {r N N':Nat} {H H':Hp} (hx:ev x = .bnd f cs) (hc:AllR (Ca ρ) cs cs') (ha:AllR (CaC ρ) (args.toList.map ev) ys)
   (hH:HpA hp ρ N H) (hn : ρ.Pairwise (fun a b=>a=none∨a ≠ b)) (h:PE P f (cs'++ys) r N H res N' H') (hb:callOk ρ r H res N' H'=true):Op1 P ev hp id (.call ⟨.value x,args,ts⟩) (sgT (sgm ρ r id) res) (news (sgm ρ r id) H'++drops (ρ.drop r))
 | nilP {x:Operand} {b off:Nat} (hx:ev x = .ptr b off):Op1 P ev hp id (.nilCheck x) (.ptr b off) []
 | nilE {x:Operand} {b i off:Nat} (hx:ev x = .eptr b i off):Op1 P ev hp id (.nilCheck x) (.eptr b i off) []
 | nilR {x:Operand} {cs:List SV} (hx:ev x = .rptr cs):Op1 P ev hp id (.nilCheck x) (.rptr cs) []
 | storeP {t:TypeId} {sz:Nat} {agg:Bool} {x y:Operand} {b off:Nat} {cs:List SV} {z:SV} (hT:Ty P t sz agg) (hx:ev x = .ptr b off) (hy:StV (ev y) z) (hs:z.solid=true) (hl:z.cells.length=sz) (hb:hp b=some (.box cs)) (ho:off+sz≤cs.length):Op1 P ev hp id (.store t x y) .junk [(b,some (.box (splL cs off z.cells)))]
 | storeE {t:TypeId} {sz:Nat} {agg:Bool} {x y:Operand} {b i off s:Nat} {d:Bool} {xs:List SV} {u z:SV} (hT:Ty P t sz agg) (hx:ev x = .eptr b i off) (hy:StV (ev y) z) (hs:z.solid=true) (hl:z.cells.length=sz) (hb:hp b=some (.arr d s xs)) (hi:xs[i]?=some u)
   (ho:off+sz≤u.cells.length) (hro:d=false→roC z=true):Op1 P ev hp id (.store t x y) .junk [(b,some (.arr d s (xs.set i (reC u (splL u.cells off z.cells)))))]
 | mkslice {t e:TypeId} {sz:Nat} {x y:Operand} {kl kc:IntKind} {n:Nat} {i j:Int} {d:Bool} {z:Value} {u:SV} (hS:Sl P t e sz) (hx:ev x = .v (.int kl i)) (hy:ev y = .v (.int kc j)) (hi:i=(n:Int)) (hj:j=(n:Int)) (hz:(P.info? e).bind (fun i=>i.zero)=some z) (hu:ZeroV z u) (hul:u.cells.length=sz)
   (hro:roC u=true) (hn:n≤4294967296):Op1 P ev hp id (.makeSlice t x y) (.own id 0 n) [(id,some (.arr d sz (List.replicate n u)))]
 | bslice {t e:TypeId} {sz len:Nat} {d:Bool} {parts:Array (Nat×Operand)} {ys:List SV} (hS:Sl P t e sz) (hix:parts.toList.map (·.1)=List.range' 0 len) (hys:(parts.toList.map fun p=>ev p.2)=ys)
   (hsol:∀y,y ∈ ys→y.solid=true∧y.cells.length=sz∧(d=false→roC y=true)) (hlim:len * sz≤16777216):Op1 P ev hp id (.buildSlice t len parts) (.own id 0 len) [(id,some (.arr d sz ys))]
 | build {t:TypeId} {parts:Array (Nat×Operand)} {z:Value} {zs r:List SV} {places:List (Nat×Nat)} {fs:Array Field} (hu:P.underlying t=some (.struct fs)) (hpl:fs.toList.mapM (fun f=>(P.info? f.type).map fun i=>(f.offset,i.size))=some places)
   (hz:(P.info? t).bind (fun i=>i.zero)=some z) (hzs:ofConst z = .agg zs) (hf:fillS (places.toArray[·]?) zs (parts.toList.map fun p=>(p.1,ev p.2))=some r):Op1 P ev hp id (.build t parts) (.agg r) []
 | buildA {t e:TypeId} {n sz:Nat} {parts:Array (Nat×Operand)} {z:Value} {zs r:List SV} (hu:P.underlying t=some (.array n e)) (hsz:(P.info? e).map (·.size)=some sz)
   (hz:(P.info? t).bind (fun i=>i.zero)=some z) (hzs:ofConst z = .agg zs) (hf:fillS (fun i=>some (i * sz,sz)) zs (parts.toList.map fun p=>(p.1,ev p.2))=some r):Op1 P ev hp id (.build t parts) (.agg r) []
 | sliceO {t e:TypeId} {sz:Nat} {x:Operand} {lo hi mx:Option Operand} {b off len l h:Nat} {d:Bool} {xs:List SV} (hS:Sl P t e sz) (hx:ev x = .own b off len) (hb:hp b=some (.arr d sz xs)) (hl:OptB ev lo 0 l) (hh:OptB ev hi len h)
   (hm:mx=none∨OptB ev mx 0 h∧mx.isSome=true∧hi.isSome=true) (h1:l≤h) (h2:h≤len):Op1 P ev hp id (.slice t x lo hi mx) (.own b (off+l) (h-l)) []
 | sliceL {t e:TypeId} {sz:Nat} {x:Operand} {lo hi mx:Option Operand} {l h:Nat} {xs:List SV} (hS:Sl P t e sz) (hx:ev x = .lst xs) (hsz:∀x,x ∈ xs→x.cells.length=sz) (hl:OptB ev lo 0 l) (hh:OptB ev hi xs.length h)
   (hm:mx=none∨OptB ev mx 0 h∧mx.isSome=true∧hi.isSome=true) (h1:l≤h) (h2:h≤xs.length):Op1 P ev hp id (.slice t x lo hi mx) (.lst ((xs.drop l).take (h-l))) []
 | sliceV {t:TypeId} {x:Operand} {lo hi mx:Option Operand} {u r:Value} {lv hv mv:Option Value} (hx:ev x = .v u) (hl:lo.map ev=lv.map .v) (hh:hi.map ev=hv.map .v) (hm:mx.map ev=mv.map .v)
   (hr:∀w,(Instr.sliceAt t u lv hv mv).run P w = .ok r w) (h1:one r=true):Op1 P ev hp id (.slice t x lo hi mx) (.v r) []
 | appO {t e tx:TypeId} {sz:Nat} {x y:Operand} {d:Bool} {b n:Nat} {xs xs' ys:List SV} {u:SV} {ts:Array TypeId} (hS:Sl P t e sz) (hx:ev x = .own b 0 n) (hb:hp b=some (.arr d sz xs)) (hn:n≤xs.length) (hxs:xs.take n=xs') (hy:ev y=u) (hs:SrcS P hp sz d tx u ys)
   (ht:ts = #[t,tx]) (hN:n+ys.length≤4294967296):Op1 P ev hp id (.call ⟨.builtin .append,#[x,y],ts⟩) (.own id 0 (n+ys.length)) [(id,some (.arr d sz (xs'++ys))),(b,none)]
 | appN {t e tx:TypeId} {sz:Nat} {x y:Operand} {d:Bool} {ys:List SV} {u:SV} {ts:Array TypeId} (hS:Sl P t e sz) (hx:ev x = .v (.slice none 0 0)) (hy:ev y=u) (hs:SrcS P hp sz d tx u ys)
   (ht:ts = #[t,tx]) (hN:ys.length≤4294967296):Op1 P ev hp id (.call ⟨.builtin .append,#[x,y],ts⟩) (.own id 0 ys.length) [(id,some (.arr d sz ys))]
 | toStr {sl dt e:TypeId} {x:Operand} {u:SV} {d:Bool} {ns:List Int} (hs:P.underlying sl=some (.slice e)) (he:P.underlying e=some (.int .u8)) (hd:P.underlying dt=some .string) (hx:ev x=u) (h:SrcS P hp 1 d sl u (ns.map b8)):Op1 P ev hp id (.convert sl dt x) (.v (.string (strOf ns))) []
 | nilcmp {op:BinOp} {t ty:TypeId} {x y:Operand} {r:Bool} (hx:isPtr (ev x)=true) (hy:ev y = .v (.pointer none)) (hr:∀a w,(binS op t x y (.pointer (some a)) (.pointer none)).run P w = .ok (.bool r) w):Op1 P ev hp id (.binOp op t x y ty) (.v (.bool r)) []
 | mkmap {t:TypeId} : Op1 P ev hp id (.makeMap t none) (.omp id) [(id,some (.mpb []))]
 | mapset {mt kt et:TypeId} {x y z:Operand} {b:Nat} {l:List (Int×Int)} {i j:Int} (hu:P.underlying mt=some (.map kt et)) (hk:P.underlying kt=some (.int .i64)) (hx:ev x = .omp b) (hb:hp b=some (.mpb l)) (hi:ev y = .v (.int .i64 i)) (hj:ev z = .v (.int .i64 j)):Op1 P ev hp id (.mapUpdate mt x y z) .junk [(b,some (.mpb (mset l i j)))]
 | mapgetO {mt kt et:TypeId} {x y:Operand} {b:Nat} {l:List (Int×Int)} {i:Int} (hu:P.underlying mt=some (.map kt et)) (hk:P.underlying kt=some (.int .i64)) (hz:(P.info? et).bind (fun i=>i.zero)=some (.int .i64 0)) (hx:ev x = .omp b) (hb:hp b=some (.mpb l)) (hi:ev y = .v (.int .i64 i)) :
   Op1 P ev hp id (.lookup mt x y true) (.tup [.v (.int .i64 ((mget l i).getD 0)),.v (.bool (mget l i).isSome)]) []
 | mapget {mt kt et:TypeId} {x y:Operand} {l:List (Int×Int)} {i:Int} (hu:P.underlying mt=some (.map kt et)) (hk:P.underlying kt=some (.int .i64)) (hz:(P.info? et).bind (fun i=>i.zero)=some (.int .i64 0)) (hx:ev x = .mp l) (hi:ev y = .v (.int .i64 i)) :
   Op1 P ev hp id (.lookup mt x y true) (.tup [.v (.int .i64 ((mget l i).getD 0)),.v (.bool (mget l i).isSome)]) []
 | range {mt kt et:TypeId} {x:Operand} {l:List (Int×Int)} (hu:P.underlying mt=some (.map kt et)) (hx:ev x = .mp l):Op1 P ev hp id (.range mt x) (.ptr id 0) [(id,some (.iter l l none))]
 | entry {x:Operand} {b:Nat} {l r:List (Int×Int)} {p:Int×Int} (hx:ev x = .ptr b 0) (hb:hp b=some (.iter l r (some p))):Op1 P ev hp id (.entry x) (.tup [.v (.int .i64 p.1),.v (.int .i64 p.2)]) []
 | clearT {t e:TypeId} {sz:Nat} {x:Operand} {d:Bool} {b off len:Nat} {xs:List SV} {ts:Array TypeId} (hS:Sl P t e sz) (hx:ev x = .own b off len) (hb:hp b=some (.arr d sz xs)) (ht:ts[0]?=some t) {z:Value} {u:SV} (hz:(P.info? e).bind (fun i=>i.zero)=some z) (hu:ZeroV z u) (hs:u.solid=true):Op1 P ev hp id (.call ⟨.builtin .clear,#[x],ts⟩) (.tup []) [(b,some (.arr d sz (xs.take off)))]
 | capN {t e:TypeId} {x:Operand} {ts:Array TypeId} (hS:P.underlying t=some (.slice e)) (hx:ev x = .v (.slice none 0 0)) (ht:ts[0]?=some t):Op1 P ev hp id (.call ⟨.builtin .cap,#[x],ts⟩) (.v (.int .i64 0)) []
 | appMk {t e tx:TypeId} {sz n:Nat} {i:Int} {x y:Operand} {d:Bool} {ts:Array TypeId} (hS:Sl P t e sz) (htx:P.underlying tx=some (.int .i64)) (hx:ev x = .v (.slice none 0 0)) (hy:ev y = .v (.int .i64 i)) (hi:i=(n:Int)) (ht:ts = #[t,tx]) (h0:0 < n) (hN:n≤4294967296):Op1 P ev hp id (.call ⟨.builtin .append,#[x,y],ts⟩) (.own id 0 n) [(id,some (.arr d sz []))]
 | thin {o:Op} {x:SV} {u u':Hp} (h:Op1 P ev hp id o x u) (ht:Thin hp u u'):Op1 P ev hp id o x u'
 | frz {o:Op} {xs:List SV} {b n sz:Nat} {u:Hp} (h:Op1 P ev hp id o (.own b 0 n) u) (hb:hlook b u=some (.arr false sz xs)) (hn:n=xs.length):Op1 P ev hp id o (.lst xs) ((b,none)::u)

theorem hmem {al l:List Nat} {b:Nat} (h:b ∈ al):b ∈ l++al:=List.mem_append_right _ h

theorem evA {cx:Cx} {m:Mp} {st:St} {a:Act} {w:World} {E:Operand→SV} (hE:EvR cx m st a w E) {x:Operand} {us:List Value} (hx:E x = .agg (us.map .v)):a.eval x = .agg us.toArray:=by
 have hv:=hE x
 rw[hx] at hv
 generalize a.eval x=q at hv
 cases hv with
 | one h=>cases h
 | agg hl h =>
  rename_i vs
  congr 1
  apply Array.ext
  ·simpa using hl
  ·intro i h1 h2
   have h2':i < us.length:=by simpa using h2
   have:=h i (.v us[i]) (by simp [h2'])
   generalize hq:vs.getD i undef=q at this
   cases this with
   | v _=>simpa [h1] using hq

theorem frz_rel {cx:Cx} {st:St} {d:Option Tmp} {a:Act} {w:World} {id n sz:Nat} {u:Hp} {xs:List SV} (hb:hlook id u=some (.arr false sz xs)) (hn:n=xs.length) (h:Rel cx (st.app d (.own id 0 n) u) a w) :
  Rel cx (st.app d (.lst xs) ((id,none)::u)) a w:=by
 obtain⟨m,h⟩:=h
 have hheap:(st.app d (.own id 0 n) u).heap=u++st.heap:=by cases d <;> rfl
 have hb':hlook id (st.app d (.own id 0 n) u).heap=some (.arr false sz xs):=by
  rw[hheap]
  unfold hlook at hb ⊢
  rw[look_append]
  cases hq:look id u with
  | none=>rw[hq] at hb;cases hb
  | some y=>rw[hq] at hb;exact hb
 obtain⟨h1,hV⟩:=h.drop id
 have hfr:∀v,VR w (AOf cx (st.app d (.own id 0 n) u).heap m) m (.own id 0 n) v→VR w (AOf cx ((id,none)::(st.app d (.own id 0 n) u).heap) m) m (.lst xs) v:=by
  intro v hv
  cases hv with
  | one hv =>
   have hv':=hv
   cases hv with
   | own0 hz =>
    have:xs=[]:=List.length_eq_zero_iff.1 (by omega)
    subst this
    exact .one .nil
   | own hm hrs hc hcap =>
    rename_i g s cap k
    subst hn
    have hA:∀k,AOf cx ((id,none)::(st.app d (.own id 0 xs.length) u).heap) m k→AOf cx (st.app d (.own id 0 xs.length) u).heap m k∧k ≠ g:=by
     rintro k (hk | ⟨c,y,s',hy,hs⟩)
     ·refine⟨.inl hk,?_⟩
      have h1:=h.bsmall k hk
      have h2:cx.base≤g∨cx.E g:=(h.dom id _ hm).2.1
      rintro rfl
      rcases h2 with h2 | h2
      ·omega
      ·exact h1.2 h2
     ·have hc:c ≠ id:=by
       rintro rfl
       unfold hlook at hy
       rw[look_cons,if_pos rfl] at hy
       cases hy
      have hy':hlook c (st.app d (.own id 0 xs.length) u).heap=some y:=by
       unfold hlook at hy ⊢
       rwa [look_cons,if_neg hc] at hy
      refine⟨.inr ⟨c,y,s',hy',hs⟩,?_⟩
      rintro rfl
      exact hc (h.inj _ _ _ _ _ _ _ hy' hb' hs hm)
    obtain⟨rfl,hp,C,e,h2,h3,h4,h5⟩:=(h.hp id _ hb').cell hm
    refine .one (.lst (off:=0 * s) (sz:=s) (fun i j=>C.getD (i * s+j) undef) hcap hp h4 ?_ ?_)
    ·intro i x j y hx hy
     refine⟨fun hk=>(hA _ hk).2 rfl,?_⟩
     rw[show 0 * s+(i * s+j)=i * s+j by omega]
     exact(h5 i x j y hx hy).1
    ·exact fun i x j y hx hy=>(h5 i x j y hx hy).2.pure _ (fun k hk=>(hA k hk).1) (fun _ _ h=>h)
 have h2:=h1.al_mono (al':=id::(st.app d (.own id 0 n) u).al) (fun b hb=>List.mem_cons_of_mem _ hb)
 refine⟨m,?_⟩
 have henv:∀t x,look t (st.app d (.lst xs) ((id,none)::u)).env=some x→VR w (AOf cx ((id,none)::(st.app d (.own id 0 n) u).heap) m) m x (a.tmps.getD t undef):=by
  intro t x hx
  cases d with
  | none=>exact h2.env t x hx
  | some d =>
   simp only[St.app,St.put,look_cons] at hx
   have he:=h.env t
   have he2:=h2.env t
   simp only[St.app,St.put,look_cons] at he he2
   split at hx
   ·rename_i ht
    cases hx
    rw[if_pos ht] at he
    exact hfr _ (he _ rfl)
   ·rename_i ht
    rw[if_neg ht] at he2
    exact he2 x hx
 have e1:(st.app d (.lst xs) ((id,none)::u)).heap=(id,none)::(st.app d (.own id 0 n) u).heap:=by cases d <;> rfl
 have e2:(st.app d (.lst xs) ((id,none)::u)).al=id::(st.app d (.own id 0 n) u).al:=by cases d <;> rfl
 have e3:(st.app d (.lst xs) ((id,none)::u)).nx=(st.app d (.own id 0 n) u).nx:=by cases d <;> rfl
 exact {
  below:=h2.below,basele:=h2.basele,bsmall:=h2.bsmall,pin:=(by rw[e3];exact h2.pin),defs:=h2.defs,size:=h2.size
  env:=by rw[e1];exact henv
  dom:=by rw[e2,e3];exact h2.dom
  hnx:=by rw[e1,e2,e3];exact h2.hnx
  inj:=by rw[e1];exact h2.inj
  hp:=by rw[e1];exact h2.hp }

theorem Op1.goes {P:Program} {cx:Cx} {st:St} {hp:Nat→Option Blk} {o:Oper} {x:SV} {u:Hp} {id:Nat} {E:Operand→SV} (hEv:∀m a w,RelM cx m st a w→EvR cx m st a w E) (h:Op1 P E hp id o.op x u) (hd:∀t,o.dst=some t→t < cx.n) (hhp:∀b x,hp b=some x→hlook b st.heap=some x)
  (hf:∀k,id≤k→k < id+8→Fresh st k):Goes P cx o st (st.app o.dst x u):=by
 have hf0:Fresh st id:=hf id (Nat.le_refl _) (by omega)
 have pur:∀ {x:SV} {v:Value} {m a w},RelM cx m st a w→(execOp a.eval o).run P w = .ok (.value v) w→VR w (AOf cx st.heap m) m x v→Does P cx m st a w (execOp a.eval o) x []:=fun h hr hv => .same h hr hv
 generalize hop:o.op=op at h
 have hex:∀ ρ:Operand→Value,execOp ρ o=execOp ρ ⟨o.dst,op,o.type,o.pos,o.after,o.guard⟩:=by
  intro ρ
  rw[← hop]
 induction h with
 | move=>exact .of_does hd fun m a w hR=>pur hR (by rw[hex];rfl) (hEv _ _ _ hR _)
 | assign=>exact .of_does hd fun m a w hR=>pur hR (by rw[hex];rfl) (hEv _ _ _ hR _)
 | pick h =>
  rename_i c y z t
  refine .of_does hd fun m a w hR=>pur (v:=if t then a.eval y else a.eval z) hR (by rw[hex];simp [execOp,(hEv _ _ _ hR).evV h,asBool]) ?_
  cases t
  ·exact hEv _ _ _ hR _
  ·exact hEv _ _ _ hR _
 | bin hx hy hr h1=>exact .of_does hd fun m a w hR=>pur hR (by rw[hex];simp only[execOp,(hEv _ _ _ hR).evV hx,(hEv _ _ _ hR).evV hy];have:=hr w;unfold binS at this;rw[Sem.run_bind,this];rfl) (.one (.v h1))
 | binA hx hy hr h1=>exact .of_does hd fun m a w hR=>pur hR (by rw[hex];simp only[execOp,evA (hEv _ _ _ hR) hx,evA (hEv _ _ _ hR) hy];have:=hr w;unfold binS at this;rw[Sem.run_bind,this];rfl) (.one (.v h1))
 | un hx hr h1=>exact .of_does hd fun m a w hR=>pur hR (by rw[hex];simp [execOp,(hEv _ _ _ hR).evV hx,hr w]) (.one (.v h1))
 | conv hx hr h1=>exact .of_does hd fun m a w hR=>pur hR (by rw[hex];simp [execOp,(hEv _ _ _ hR).evV hx,hr w]) (.one (.v h1))
 | box hx hs =>
  rename_i t x y
  refine .of_does hd fun m a w hR=>does_box hR hf0 t hs (hx▸hEv _ _ _ hR x) ?_
  rw[hex]
  simp [execOp,Instr.box,newVar,newRow]
 | alloc hz hy hs =>
  rename_i t z y
  refine .of_does hd fun m a w hR=>does_box hR hf0 t hs (v:=z) (hy _ _ _) ?_
  rw[hex]
  cases hi:P.info? t with
  | none=>simp [hi] at hz
  | some it =>
   simp only[hi,Option.bind_some] at hz
   simp [execOp,Instr.alloc,zeroValue,typeInfo,hi,hz,newVar,newRow]
 | loadP hT hx hb hr=>exact .of_does hd fun m a w hR=>by rw[hex];exact does_loadP hR (hEv _ _ _ hR) hhp hT hx hb hr
 | loadE hT hx hb hi hr=>exact .of_does hd fun m a w hR=>by rw[hex];exact does_loadE hR (hEv _ _ _ hR) hhp hT hx hb hi hr
 | loadR hT hx hr=>exact .of_does hd fun m a w hR=>by rw[hex];exact does_loadR hR (hEv _ _ _ hR) hT hx hr
 | fieldP hF hx=>exact .of_does hd fun m a w hR=>by rw[hex];exact does_fieldP hR (hEv _ _ _ hR) hF hx
 | fieldE hF hx=>exact .of_does hd fun m a w hR=>by rw[hex];exact does_fieldE hR (hEv _ _ _ hR) hF hx
 | fieldR hF hx=>exact .of_does hd fun m a w hR=>by rw[hex];exact does_fieldR hR (hEv _ _ _ hR) hF hx
 | idxL hS hx hi h0 hy hs=>exact .of_does hd fun m a w hR=>by rw[hex];exact does_idxL hR (hEv _ _ _ hR) hS hx hi h0 hy hs
 | idxO hS hx hb hi h0 hl=>exact .of_does hd fun m a w hR=>by rw[hex];exact does_idxO hR (hEv _ _ _ hR) hhp hS hx hb hi h0 hl
 | idxA hA hx hi h0 hl=>exact .of_does hd fun m a w hR=>by rw[hex];exact does_idxA hR (hEv _ _ _ hR) hA hx hi h0 hl
 | index hx hi hr h1=>exact .of_does hd fun m a w hR=>pur hR (by rw[hex];simp [execOp,(hEv _ _ _ hR).evV hx,(hEv _ _ _ hR).evV hi,hr w]) (.one (.v h1))
 | lenL hS hx ht =>
  rename_i t e x xs ts
  refine .of_does hd fun m a w hR=>?_
  have hv:=(hEv _ _ _ hR).ev1 hx (by simp) (by simp) (by simp)
  have key:∀b c,a.eval x = .slice b xs.length c→Does P cx m st a w (execOp a.eval o) (.v (.int .i64 xs.length)) []:=fun b c e=>pur hR (by rw[hex];simp [execOp,resolve,invoke,builtin,Builtin.len_,ht,e,run_underlying hS,goInt]) (.one (.v rfl))
  generalize hq:a.eval x=q at hv
  cases hv with
  | nil=>exact key _ _ hq
  | lst=>exact key _ _ hq
 | lenO hS hx ht =>
  rename_i t e x b off len ts
  refine .of_does hd fun m a w hR=>?_
  have hv:=(hEv _ _ _ hR).ev1 hx (by simp) (by simp) (by simp)
  have key:∀b c,a.eval x = .slice b len c→Does P cx m st a w (execOp a.eval o) (.v (.int .i64 len)) []:=fun b c e=>pur hR (by rw[hex];simp [execOp,resolve,invoke,builtin,Builtin.len_,ht,e,run_underlying hS,goInt]) (.one (.v rfl))
  generalize hq:a.eval x=q at hv
  cases hv with
  | own0 hz=>subst hz;exact key _ _ hq
  | own=>exact key _ _ hq
 | lenV hx hr h1=>exact .of_does hd fun m a w hR=>pur hR (by rw[hex];simp [execOp,resolve,invoke,builtin,(hEv _ _ _ hR).evV hx,hr _ w]) (.one (.v h1))
 | mkmap =>
  rename_i t
  refine .of_does hd fun m a w hR=>?_
  obtain⟨m',h1,h2⟩:=hR.allocM hf0
  refine⟨_,_,m',.inl ?_,h1,.one (.omp h2)⟩
  rw[hex]
  simp only[execOp,Option.map_none]
  rw[Sem.run_bind,run_makeMap]
  rfl
 | mapset hu hk hx hb hi hj =>
  refine .of_does hd fun m a w hR=>?_
  obtain⟨g,s,e1,e2,e3⟩:=omp_at hR (hhp _ _ hb) ((hEv _ _ _ hR).ev1 hx (by simp) (by simp) (by simp))
  refine⟨undef,_,m,.inr ⟨rfl,?_⟩,(hR.updM _ (hhp _ _ hb) e2 e3).al_mono (fun b hb=>List.mem_cons_of_mem _ hb),.junk⟩
  rw[hex]
  simp only[execOp,e1,(hEv _ _ _ hR).evV hi,(hEv _ _ _ hR).evV hj]
  rw[Sem.run_bind,run_mapUpdate hu hk e3]
  rfl
 | mapgetO hu hk hz hx hb hi =>
  refine .of_does hd fun m a w hR=>?_
  obtain⟨g,s,e1,e2,e3⟩:=omp_at hR (hhp _ _ hb) ((hEv _ _ _ hR).ev1 hx (by simp) (by simp) (by simp))
  refine pur hR (by rw[hex];simp only[execOp,e1,(hEv _ _ _ hR).evV hi];rw[Sem.run_bind,run_lookup hu hk hz e3];rfl) (.tup rfl fun j y hy=>?_)
  match j,hy with
  | 0,hy=>cases hy;exact .one (.v rfl)
  | 1,hy=>cases hy;exact .one (.v rfl)
 | mapget hu hk hz hx hi =>
  rename_i mt kt et x y l i
  refine .of_does hd fun m a w hR=>?_
  have hv:=(hEv _ _ _ hR).ev1 hx (by simp) (by simp) (by simp)
  generalize hq:a.eval x=q at hv
  cases hv with
  | mp e3 =>
   refine pur hR (by rw[hex];simp only[execOp,hq,(hEv _ _ _ hR).evV hi];rw[Sem.run_bind,run_lookup hu hk hz e3.2];rfl) (.tup rfl fun j y hy=>?_)
   match j,hy with
   | 0,hy=>cases hy;exact .one (.v rfl)
   | 1,hy=>cases hy;exact .one (.v rfl)
 | min hx hy=>exact .of_does hd fun m a w hR=>pur hR (by rw[hex];simp [execOp,resolve,invoke,builtin,Builtin.min_,Builtin.min2,(hEv _ _ _ hR).evV hx,(hEv _ _ _ hR).evV hy]) (.one (.v rfl))
 | max hx hy=>exact .of_does hd fun m a w hR=>pur hR (by rw[hex];simp [execOp,resolve,invoke,builtin,Builtin.max_,Builtin.max2,(hEv _ _ _ hR).evV hx,(hEv _ _ _ hR).evV hy]) (.one (.v rfl))
 | @extract x ix xs y hx hy =>
  refine .of_does hd fun m a w hR=>?_
  have hv:=hEv _ _ _ hR x
  rw[hx] at hv
  generalize hq:a.eval x=q at hv
  cases hv with
  | one hv=>cases hv
  | tup hl h =>
   rename_i vs
   have hlt:=lt_of_get hy
   have hix:ix < vs.size:=by omega
   have hvs:vs[ix]?=some (vs.getD ix undef):=by rw[Array.getD_eq_getD_getElem?,Array.getElem?_eq_getElem hix];rfl
   have hvr:=h _ _ hy
   generalize vs.getD ix undef=u at hvs hvr
   exact pur hR (by rw[hex];simp [execOp,hq,Instr.extract,hvs]) hvr
 | mkfunc hy h1 =>
  rename_i f cap ys
  refine .of_does hd fun m a w hR=>pur (v := .func (.func f) #[] (cap.map a.eval)) hR (by rw[hex];simp [execOp,Instr.makeFunc]) (.one (.clo (by rw[← hy];simp) ?_))
  intro j y hyj
  have hy1:=List.all_eq_true.1 h1 y (List.mem_of_getElem? hyj)
  rw[← hy] at hyj
  simp only[List.getElem?_map,Option.map_eq_some_iff] at hyj
  obtain⟨z,hz,hzy⟩:=hyj
  have hval:(cap.map a.eval).getD j undef=a.eval z:=by
   have:cap[j]?=some z:=by simpa using hz
   simp [Array.getD_eq_getD_getElem?,this]
  rw[hval]
  exact(hEv _ _ _ hR).ev1 hzy (by rintro rfl;cases hy1) (by rintro cs rfl;cases hy1) (by rintro cs rfl;cases hy1)
 | call hx hc ha h h8=>exact goes_call hEv hop hd hhp hf hx hc ha h h8
 | nilP hx =>
  refine .of_does hd fun m a w hR=>?_
  have hv:=(hEv _ _ _ hR).ev1 hx (by simp) (by simp) (by simp)
  rename_i x b off
  generalize hq:a.eval x=q at hv
  cases hv with
  | ptr hm=>exact pur hR (by rw[hex];simp [execOp,hq]) (.one (.ptr hm))
 | nilE hx =>
  refine .of_does hd fun m a w hR=>?_
  have hv:=(hEv _ _ _ hR).ev1 hx (by simp) (by simp) (by simp)
  rename_i x b i off
  generalize hq:a.eval x=q at hv
  cases hv with
  | eptr hm=>exact pur hR (by rw[hex];simp [execOp,hq]) (.one (.eptr hm))
 | nilR hx =>
  refine .of_does hd fun m a w hR=>?_
  have hv:=(hEv _ _ _ hR).ev1 hx (by simp) (by simp) (by simp)
  rename_i x cs
  generalize hq:a.eval x=q at hv
  cases hv with
  | rptr C h1 h2=>exact pur hR (by rw[hex];simp [execOp,hq]) (.one (.rptr C h1 h2))
 | storeP hT hx hy hs hl hb ho =>
  refine .of_does hd fun m a w hR=>?_
  obtain⟨w',h1,h2⟩:=does_storeP (P:=P) hR hhp hT ((hEv _ _ _ hR).ev1 hx (by simp) (by simp) (by simp)) hb (hy.sound (hEv _ _ _ hR _)) hs hl ho
  exact⟨undef,w',m,.inr ⟨rfl,by rw[hex];simp [execOp,h1]⟩,h2,.junk⟩
 | storeE hT hx hy hs hl hb hi ho hro =>
  refine .of_does hd fun m a w hR=>?_
  obtain⟨w',h1,h2⟩:=does_storeE (P:=P) hR hhp hT ((hEv _ _ _ hR).ev1 hx (by simp) (by simp) (by simp)) hb hi (hy.sound (hEv _ _ _ hR _)) hs hl ho hro
  exact⟨undef,w',m,.inr ⟨rfl,by rw[hex];simp [execOp,h1]⟩,h2,.junk⟩
 | mkslice hS hx hy hi hj hz hu hul hro hn =>
  refine .of_does hd fun m a w hR=>?_
  subst hi hj
  rename_i t e sz x y kl kc n d z u
  obtain⟨v,w',m',h1,h2,h3⟩:=does_make (P:=P) (kl:=kl) (kc:=kc) hR hf0 hS hz hu hul hro hn
  exact⟨v,w',m',.inl (by rw[hex];simp [execOp,(hEv _ _ _ hR).evV hx,(hEv _ _ _ hR).evV hy,h1]),h2,h3⟩
 | bslice hS hix hys hsol hlim =>
  refine .of_does hd fun m a w hR=>?_
  obtain⟨v,w',m',h1,h2,h3⟩:=does_bslice (P:=P) hR (hEv _ _ _ hR) hf0 hS hix hys hsol hlim
  exact⟨v,w',m',.inl (by rw[hex];simp only[execOp];rw[Sem.run_bind,h1];rfl),h2,h3⟩
 | build hu hpl hz hzs hf' =>
  refine .of_does hd fun m a w hR=>?_
  obtain⟨v,h1,h2⟩:=does_build (P:=P) hR (hEv _ _ _ hR) hu hpl hz hzs hf'
  exact pur hR (by rw[hex];simp only[execOp];rw[Sem.run_bind,h1];rfl) h2
 | buildA hu hsz hz hzs hf' =>
  refine .of_does hd fun m a w hR=>?_
  obtain⟨v,h1,h2⟩:=does_buildA (P:=P) hR (hEv _ _ _ hR) hu hsz hz hzs hf'
  exact pur hR (by rw[hex];simp only[execOp];rw[Sem.run_bind,h1];rfl) h2
 | sliceO hS hx hb hl hh hm h1 h2 =>
  refine .of_does hd fun m a w hR=>?_
  obtain⟨v,h3,h4⟩:=does_sliceO (P:=P) hR (hEv _ _ _ hR) hhp hS ((hEv _ _ _ hR).ev1 hx (by simp) (by simp) (by simp)) hb hl hh hm h1 h2
  exact pur hR (by rw[hex];simp only[execOp];rw[Sem.run_bind,h3];rfl) h4
 | sliceL hS hx hsz hl hh hm h1 h2 =>
  refine .of_does hd fun m a w hR=>?_
  obtain⟨v,h3,h4⟩:=does_sliceL (P:=P) hR (hEv _ _ _ hR) hS ((hEv _ _ _ hR).ev1 hx (by simp) (by simp) (by simp)) hsz hl hh hm h1 h2
  exact pur hR (by rw[hex];simp only[execOp];rw[Sem.run_bind,h3];rfl) h4
 | sliceV hx hl hh hm hr h1 =>
  refine .of_does hd fun m a w hR=>?_
  have key:∀(o:Option Operand) (v:Option Value),o.map (E)=v.map .v→o.map a.eval=v:=by
   intro o v h
   cases o with
   | none=>cases v with
    | none=>rfl
    | some=>simp at h
   | some x=>cases v with
    | none=>simp at h
    | some u=>simp only[Option.map_some,Option.some.injEq] at h;simp [(hEv _ _ _ hR).evV h]
  exact pur hR (by rw[hex];simp only[execOp,(hEv _ _ _ hR).evV hx,key _ _ hl,key _ _ hh,key _ _ hm];rw[Sem.run_bind,hr w];rfl) (.one (.v h1))
 | appO hS hx hb hn hxs hy hs ht hN =>
  refine .of_does hd fun m a w hR=>?_
  subst ht
  have hyv:=(hEv _ _ _ hR).ev1 hy (by rintro rfl;cases hs) (by rintro cs rfl;cases hs) (by rintro cs rfl;cases hs)
  obtain⟨v,w',m',h1,h2,h3⟩:=does_app (P:=P) (ty:=o.type) hR hhp hf0 hS ((hEv _ _ _ hR).ev1 hx (by simp) (by simp) (by simp)) hb hn hxs hs hyv hN
  exact⟨v,w',m',.inl (by rw[hex];simp [execOp,resolve,invoke,builtin,h1]),h2,h3⟩
 | appN hS hx hy hs ht hN =>
  refine .of_does hd fun m a w hR=>?_
  subst ht
  have hyv:=(hEv _ _ _ hR).ev1 hy (by rintro rfl;cases hs) (by rintro cs rfl;cases hs) (by rintro cs rfl;cases hs)
  obtain⟨v,w',m',h1,h2,h3⟩:=does_app_nil (P:=P) (ty:=o.type) hR hhp hf0 hS hs hyv hN
  exact⟨v,w',m',.inl (by rw[hex];simp [execOp,resolve,invoke,builtin,(hEv _ _ _ hR).evV hx,h1]),h2,h3⟩
 | toStr hs he hdt hx h =>
  refine .of_does hd fun m a w hR=>?_
  have hv:=(hEv _ _ _ hR).ev1 hx (by rintro rfl;cases h) (by rintro cs rfl;cases h) (by rintro cs rfl;cases h)
  have hr:=does_str (P:=P) hR hhp hs h hv
  rename_i x u d ns
  have hq:∃q l c,a.eval x = .slice q l c:=by
   generalize a.eval x=q at hv
   generalize ns.map b8=ys at h
   cases h with
   | lst=>cases hv <;> exact⟨_,_,_,rfl⟩
   | own=>cases hv <;> exact⟨_,_,_,rfl⟩
   | nil=>cases hv;exact⟨_,_,_,rfl⟩
   | str hk=>rw[hs] at hk;cases hk
  exact pur hR (by rw[hex];simp only[execOp];rw[Sem.run_bind,run_toStr hs he hdt hq hr];rfl) (.one (.v rfl))

 | @nilcmp op t ty x y r hx hy hr =>
  refine .of_does hd fun m a w hR=>?_
  have hv:=hEv _ _ _ hR x
  obtain⟨p,hp⟩:∃p,a.eval x = .pointer (some p):=by
   generalize hq:E x=q at hx hv
   generalize a.eval x=u at hv
   cases q with
   | rptr cs=>cases hv with | one h=>cases h with | rptr C h1 h2=>exact⟨_,rfl⟩
   | ptr b o=>cases hv with | one h=>cases h with | ptr h1=>exact⟨_,rfl⟩
   | eptr b i o=>cases hv with | one h=>cases h with | eptr h1=>exact⟨_,rfl⟩
   | _=>cases hx
  exact pur hR (by rw[hex];simp only[execOp,hp,(hEv _ _ _ hR).evV hy];have:=hr p w;unfold binS at this;rw[Sem.run_bind,this];rfl) (.one (.v rfl))
 | callE hx hc ha hH hn h hb =>
  simp only[callOk,Bool.and_eq_true] at hb
  obtain⟨⟨⟨⟨⟨⟨⟨b1,b2⟩,b3⟩,b4⟩,b5⟩,b6⟩,b7⟩,b8⟩:=hb
  exact goes_callE hEv hop hd hhp hf hx hc ha hH b1 hn b2 h (Nat.le_of_ble_eq_true b3) b4 b5 b6 b7
 | callB hx hc ha hH hn h hb =>
  simp only[callOk,Bool.and_eq_true] at hb
  obtain⟨⟨⟨⟨⟨⟨⟨b1,b2⟩,b3⟩,b4⟩,b5⟩,b6⟩,b7⟩,b8⟩:=hb
  exact goes_callB hEv hop hd hhp hf hx hc ha hH b1 hn b2 h (Nat.le_of_ble_eq_true b3) b4 b5 b6 b7
 | mkbnd hy h1 =>
  rename_i f first ys
  refine .of_does hd fun m a w hR=>pur (v := .func (.func f) (first.map a.eval) #[]) hR (by rw[hex];simp [execOp,Instr.makeFunc]) (.one (.bnd ?_ ?_))
  ·rw[← hy];simp
  ·intro j y hj
   subst hy
   simp only[List.getElem?_map,Option.map_eq_some_iff,Array.getElem?_toList] at hj
   obtain⟨z,hz,rfl⟩:=hj
   have hl:SV.lone (E z)=true:=by
    have:=List.all_eq_true.1 h1 (E z) (List.mem_map.2 ⟨z,by simpa using Array.mem_of_getElem? hz,rfl⟩)
    exact this
   have hv:=hEv _ _ _ hR z
   have:(first.map a.eval).getD j undef=a.eval z:=by simp [Array.getD_eq_getD_getElem?,hz]
   rw[this]
   generalize hq:E z=q at hl hv
   generalize a.eval z=v at hv
   cases hv with
   | one h=>exact h
   | agg=>simp [SV.lone] at hl
   | tup=>simp [SV.lone] at hl
   | junk=>simp [SV.lone] at hl
 | range hu hx =>
  rename_i mt kt et x l
  refine .of_does hd fun m a w hR=>?_
  have hv:=(hEv _ _ _ hR).ev1 hx (by simp) (by simp) (by simp)
  generalize hq:a.eval x=q at hv
  cases hv with
  | mp e3 =>
   rename_i blk
   obtain⟨m',h1,h2⟩:=hR.allocI hf0 e3.1 e3.2
   refine⟨_,_,m',.inl ?_,h1,.one (.ptr h2)⟩
   rw[hex]
   simp only[execOp,hq]
   rw[Sem.run_bind,run_range_map w mt kt et blk _ _ hu (by have:=e3.2;unfold mobj at this;exact this)]
   rfl
 | entry hx hb =>
  rename_i x b l r p
  refine .of_does hd fun m a w hR=>?_
  have hv:=(hEv _ _ _ hR).ev1 hx (by simp) (by simp) (by simp)
  generalize hq:a.eval x=q at hv
  cases hv with
  | ptr hm =>
   rename_i g s
   obtain⟨g',s',gm,seen,h1,h2,h3,h4,h5⟩:=hR.hp b _ (hhp _ _ hb)
   rw[hm] at h1
   cases h1
   obtain⟨y,sn,y1,rfl,y3⟩:=h5.2 p rfl
   have hrun:=run_entry_at (P:=P) w g gm l.length sn (mes l 0).toArray l.length y h2 (by unfold mobj at h4;exact h4) (by simpa using y1) (by simpa using mes_nodup l 0)
   have hk:y.key = .int .i64 p.1:=congrArg Prod.fst y3
   have hval:y.val = .int .i64 p.2:=congrArg Prod.snd y3
   rw[hk,hval] at hrun
   refine pur hR (by rw[hex];simp only[execOp,hq];rw[Sem.run_bind,hrun];rfl) (.tup rfl fun j z hz=>?_)
   match j,hz with
   | 0,hz=>cases hz;exact .one (.v rfl)
   | 1,hz=>cases hz;exact .one (.v rfl)
 | clearT hS hx hb ht hz hu hs =>
  refine .of_does hd fun m a w hR=>?_
  obtain⟨w',h1,h2⟩:=does_clear (P:=P) hR hS ((hEv _ _ _ hR).ev1 hx (by simp) (by simp) (by simp)) (hhp _ _ hb) ht o.type hz hu hs
  exact⟨.tuple #[],w',m,.inl (by rw[hex];simp [execOp,resolve,invoke,builtin,h1]),h2.al_mono (fun b hb=>List.mem_cons_of_mem _ hb),.tup rfl (fun j y hy=>by simp at hy)⟩
 | capN hS hx ht=>exact .of_does hd fun m a w hR=>pur hR (by rw[hex];simp [execOp,resolve,invoke,builtin,(hEv _ _ _ hR).evV hx,Builtin.cap_,ht,run_underlying hS,goInt]) (.one (.v rfl))
 | appMk hS htx hx hy hi ht h0 hN =>
  refine .of_does hd fun m a w hR=>?_
  subst ht hi
  obtain⟨v,w',m',h1,h2,h3⟩:=does_appMk (P:=P) (ty:=o.type) hR hf0 hS htx h0 hN
  exact⟨v,w',m',.inl (by rw[hex];simp [execOp,resolve,invoke,builtin,(hEv _ _ _ hR).evV hx,(hEv _ _ _ hR).evV hy,h1]),h2,h3⟩
 | thin h ht ih =>
  have ih:=ih hop hex
  rintro a w hR
  have hR0:=hR
  obtain⟨m,hM⟩:=hR0
  exact Oper.wp_mono (fun a' w' hq=>thin_rel ht hhp hM.hnx hq) (ih a w hR)
 | frz h hb hn ih =>
  have ih:=ih hop hex
  intro a w hR
  exact Oper.wp_mono (fun a' w' hq=>frz_rel hb hn hq) (ih a w hR)

end Go.Sh
