/- SearchOrder: the law SearchOrder of the given program returns true at every input, and the input reads as before. No condition. -/
import Derived.Test.YtfgfckgbefnnaaaYSearchOrder1
import Derived.Test.YtfgfckgbefnnaaaRows
import Derived.ProofKit
import Derived.Test.YtfgfckgbefnnaaaPSearchOrder0
set_option linter.unusedVariables false
set_option maxHeartbeats 4000000
set_option linter.unusedSimpArgs false
set_option maxRecDepth 100000
namespace Go.Proofs.Ytfgfckgbefnnaaa
open Go Go.Sh Go.Px Go.ChangeShapes Go.WideShapes Go.ChangeAt Go.RowKit
attribute [local irreducible] Go.Sh.T Go.Sh.RunT Go.Sh.RunD
theorem Try.own:ownKnob Try.prog.godebug=none:=by kernel_rfl
theorem Try.laidOut:laidOutB Try.prog=true:=by kernel_rfl
theorem op3:Opens Try.prog 3 1 (fun n:Int=>[SV.v (.int .i64 n)]) okI:=(opens_int Try.underlying3 (by kernel_rfl)).map (fun x=>x) (fun _=>rfl) (fun _ h=>lit_i64 h) (fun _=>rfl)
theorem op23:Opens Try.prog 23 1 (fun l:(List Int)=>[SV.lst (l.map eI)]) okLI:=opens_slice Try.underlying23 (by kernel_rfl) op3 (by decide) eI (fun _=>rfl)
theorem SearchOrder_ok (a0:(List Int)) (h0:okLI a0) (a1:(List Int)) (h1:okLI a1) (a2:(List Int)) (h2:okLI a2) (a3:(List Int)) (h3:okLI a3):PC Try.prog false 10 [.lst (List.map eI a0),.lst (List.map eI a1),.lst (List.map eI a2),.lst (List.map eI a3)] (.v (.bool true)):=by
  obtain⟨k,H⟩:=Go.Px.SearchOrder_true a0 h0 a1 h1 a2 h2 a3 h3
  exact law15_SearchOrder_pc false k a0 a1 a2 a3 true H
theorem Try.ws_app:∀(w r:List Char),(∀c,c ∈ w→c ≠ (Char.ofNat 32))→wordsSigns (w++(Char.ofNat 32)::r)=w::wordsSigns r
  | [],r,_=>by rw[List.nil_append,wordsSigns]
  | c::w,r,h=>by
    have hc:=h c (List.mem_cons_self ..)
    rw[List.cons_append,wordsSigns,Try.ws_app w r fun d hd=>h d (List.mem_cons_of_mem _ hd)]
    exact hc
theorem Try.ws_last:∀(w:List Char),(∀c,c ∈ w→c ≠ (Char.ofNat 32))→wordsSigns w=[w]
  | [],_=>by rw[wordsSigns]
  | c::w,h=>by
    have hc:=h c (List.mem_cons_self ..)
    rw[wordsSigns,Try.ws_last w fun d hd=>h d (List.mem_cons_of_mem _ hd)]
    exact hc
theorem Try.noSp {w:List Char} (h:(w.all fun c => !(c == (Char.ofNat 32)))=true):∀c,c ∈ w→c ≠ (Char.ofNat 32):=fun c hc e=>by
  have:=List.all_eq_true.1 h c hc
  rw[e] at this
  cases this
def Try.w0:List Char:=[104,97,114,110,101,115,115].map Char.ofNat
def Try.w1:List Char:=[53,98,51,52,55,56,57,53,49,57,100,98,51,101,52,97,98,49,102,102,54,52,48,51,100,57,55,51,101,97,56,101,98,52,56,55,57,50,100,52,51,48,49,49,53,97,97,54,54,55,53,100,52,52,49,48,57,55,98,49,99,50,97,98].map Char.ofNat
def Try.w2:List Char:=[99,117,116].map Char.ofNat
def Try.w3:List Char:=[97,116].map Char.ofNat
def Try.w4:List Char:=[112,97,114,116,101,114,114,101,47,112,97,114,116,101,114,114,101,108,97,119,49,52,46,80,114,111,112,82,97,119].map Char.ofNat
def Try.w5:List Char:=[112,97,114,116,101,114,114,101,47,112,97,114,116,101,114,114,101,108,97,119,49,52,46,80,114,111,112,66,97,99,107].map Char.ofNat
def Try.w6:List Char:=[112,97,114,116,101,114,114,101,47,112,97,114,116,101,114,114,101,108,97,119,49,52,46,80,114,111,112,80,108,97,121,115].map Char.ofNat
def Try.w7:List Char:=[112,97,114,116,101,114,114,101,47,112,97,114,116,101,114,114,101,108,97,119,49,52,46,80,114,111,112,84,119,111].map Char.ofNat
def Try.w8:List Char:=[112,97,114,116,101,114,114,101,47,112,97,114,116,101,114,114,101,108,97,119,49,53,46,83,101,97,114,99,104,78,111,100,101,115].map Char.ofNat
def Try.w9:List Char:=[112,97,114,116,101,114,114,101,47,112,97,114,116,101,114,114,101,108,97,119,49,53,46,83,101,97,114,99,104,70,117,101,108].map Char.ofNat
def Try.w10:List Char:=[112,97,114,116,101,114,114,101,47,112,97,114,116,101,114,114,101,108,97,119,49,53,46,83,101,97,114,99,104,70,114,101,101].map Char.ofNat
def Try.w11:List Char:=[112,97,114,116,101,114,114,101,47,112,97,114,116,101,114,114,101,108,97,119,49,53,46,83,101,97,114,99,104,79,114,100,101,114].map Char.ofNat
def Try.w12:List Char:=[112,97,114,116,101,114,114,101,47,112,97,114,116,101,114,114,101,108,97,119,49,56,46,82,101,115,111,108,118,101,77,111,118,101,100].map Char.ofNat
def Try.w13:List Char:=[112,97,114,116,101,114,114,101,47,112,97,114,116,101,114,114,101,108,97,119,49,55,46,67,101,114,116,67,117,116].map Char.ofNat
theorem Try.io:Try.prog.initOrder=String.ofList (Try.w0++(Char.ofNat 32)::(Try.w1++(Char.ofNat 32)::(Try.w2++(Char.ofNat 32)::(Try.w3++(Char.ofNat 32)::(Try.w4++(Char.ofNat 32)::(Try.w5++(Char.ofNat 32)::(Try.w6++(Char.ofNat 32)::(Try.w7++(Char.ofNat 32)::(Try.w8++(Char.ofNat 32)::(Try.w9++(Char.ofNat 32)::(Try.w10++(Char.ofNat 32)::(Try.w11++(Char.ofNat 32)::(Try.w12++(Char.ofNat 32)::(Try.w13)))))))))))))):=by kernel_rfl
theorem Try.io2:wordsSigns Try.prog.initOrder.toList=[Try.w0,Try.w1,Try.w2,Try.w3,Try.w4,Try.w5,Try.w6,Try.w7,Try.w8,Try.w9,Try.w10,Try.w11,Try.w12,Try.w13]:=by
  rw[Try.io,String.toList_ofList,Try.ws_app Try.w0 _ (Try.noSp (by kernel_rfl)),Try.ws_app Try.w1 _ (Try.noSp (by kernel_rfl)),Try.ws_app Try.w2 _ (Try.noSp (by kernel_rfl)),Try.ws_app Try.w3 _ (Try.noSp (by kernel_rfl)),Try.ws_app Try.w4 _ (Try.noSp (by kernel_rfl)),Try.ws_app Try.w5 _ (Try.noSp (by kernel_rfl)),Try.ws_app Try.w6 _ (Try.noSp (by kernel_rfl)),Try.ws_app Try.w7 _ (Try.noSp (by kernel_rfl)),Try.ws_app Try.w8 _ (Try.noSp (by kernel_rfl)),Try.ws_app Try.w9 _ (Try.noSp (by kernel_rfl)),Try.ws_app Try.w10 _ (Try.noSp (by kernel_rfl)),Try.ws_app Try.w11 _ (Try.noSp (by kernel_rfl)),Try.ws_app Try.w12 _ (Try.noSp (by kernel_rfl)),Try.ws_last _ (Try.noSp (by kernel_rfl))]
theorem Try.bm:behindMainWord (wordsSigns Try.prog.initOrder.toList)=[Try.w2,Try.w3,Try.w4,Try.w5,Try.w6,Try.w7,Try.w8,Try.w9,Try.w10,Try.w11,Try.w12,Try.w13]:=by rw[Try.io2];kernel_rfl
theorem Try.la:Try.prog.laysLater=false:=by kernel_rfl
theorem Try.be:Try.prog.bearsReflect=false:=by kernel_rfl
theorem Try.do:Try.prog.doorFits []=true:=by kernel_rfl
theorem Try.st:stripLifts liftWords [Try.w2,Try.w3,Try.w4,Try.w5,Try.w6,Try.w7,Try.w8,Try.w9,Try.w10,Try.w11,Try.w12,Try.w13]=([],[Try.w2,Try.w3,Try.w4,Try.w5,Try.w6,Try.w7,Try.w8,Try.w9,Try.w10,Try.w11,Try.w12,Try.w13]):=by kernel_rfl
theorem Try.ent_of (P:Program) (c:List Char) (r r2:List (List Char)) (h:behindMainWord (wordsSigns P.initOrder.toList)=c::r) (hs:stripLifts liftWords (c::r)=([],r2)) (hc:r2.head?=some "cut".toList) (la:P.laysLater=false) (be:P.bearsReflect=false) (df:P.doorFits []=true):P.mayEnter=true:=by
  unfold Program.mayEnter
  rw[h]
  simp only[hs,hc,la,be,df]
  simp
theorem Try.hd:List.head? [Try.w2,Try.w3,Try.w4,Try.w5,Try.w6,Try.w7,Try.w8,Try.w9,Try.w10,Try.w11,Try.w12,Try.w13]=some "cut".toList:=by kernel_rfl
theorem Try.ent:Try.prog.mayEnter=true:=Try.ent_of Try.prog _ _ _ Try.bm Try.st Try.hd Try.la Try.be Try.do
theorem Try.lf:Try.prog.liftsFinal=false:=by unfold Program.liftsFinal Program.headLifts;rw[Try.bm];kernel_rfl
theorem Try.mk_of (P:Program) (c:List Char) (r:List (List Char)) (h:behindMainWord (wordsSigns P.initOrder.toList)=c::r) (h1:(c == "gc".toList)=false) (h2:(c == "spec".toList)=false) (h3:(c == "cut".toList)=true):P.make=some .cut:=by
  unfold Program.make
  rw[h]
  simp only[h1,h2,h3]
  simp
theorem Try.mk:Try.prog.make=some .cut:=Try.mk_of Try.prog _ _ Try.bm (by kernel_rfl) (by kernel_rfl) (by kernel_rfl)
theorem Try.lfc:(Rows.searchOrderRow.lifted == Try.prog.liftsFinal)=true:=by rw[Try.lf];kernel_rfl
theorem Try.mkc:(Try.prog.make == some Rows.searchOrderRow.make)=true:=by rw[Try.mk];kernel_rfl
theorem joined:joinedFacts Try.prog 10 Try.f10 Rows.searchOrderSpec Rows.searchOrderRow=true:=by
  unfold joinedFacts
  simp only[Bool.and_eq_true]
  repeat' apply And.intro
  all_goals first | with_reducible exact Try.ent | with_reducible exact Try.lfc | with_reducible exact Try.mkc | kernel_rfl
set_option maxRecDepth 100000 in
theorem searchOrder_lifted (os:Os) (started:os.Started) (H:Type) (enc:TypeId×Value→H) :
    ReturnsInHanded {} Try.checked os 10 .any (Rows.searchOrderSpec.pre6 enc Try.prog Try.f10 Rows.searchOrderRow.domain false) (Rows.searchOrderSpec.post enc Try.prog Try.f10 false true false false):=by
  refine returnsInHanded_of_change (C:=Try.checked) Try.own started (by kernel_rfl) Try.func10 (ChangeSpec.witness6 (enc:=enc) (C:=Try.checked) false ⟨#[],#[.slice none 0 0,.slice none 0 0,.slice none 0 0,.slice none 0 0],[]⟩ 8 (by kernel_rfl) (by kernel_rfl) (by kernel_rfl) (by kernel_rfl)) ?_
  intro W base args ds gs before hval0 hW hcnd _
  have hval:∀(j:Nat) t v,Try.f10.params[j]?=some t→args[j]?=some v→Value.okWide Try.prog W .any base t v:=hval0
  have hW':=hW
  obtain⟨p,q,hA0,hV,hpq,hfz,hnd⟩:=hW
  have hA:DataW.TrodAll enc Try.prog W 0 (fun _=>true) true Try.f10.params.toList args.toList ds p:=hA0
  rw[Try.params10] at hA hval
  obtain⟨v0,vs0,d0,ds0,p0,q0,hargs,rfl,rfl,h0,r0⟩:=trodAll_cons hA
  obtain⟨v1,vs1,d1,ds1,p1,q1,rfl,rfl,rfl,h1,r1⟩:=trodAll_cons r0
  obtain⟨v2,vs2,d2,ds2,p2,q2,rfl,rfl,rfl,h2,r2⟩:=trodAll_cons r1
  obtain⟨v3,vs3,d3,ds3,p3,q3,rfl,rfl,rfl,h3,r3⟩:=trodAll_cons r2
  obtain⟨rfl,rfl,rfl⟩:=trodAll_nil r3
  obtain rfl:args = #[v0,v1,v2,v3]:=by cases args;simp_all
  obtain⟨rfl,rfl⟩:=trodVars_none hV
  obtain⟨a0,k0,x0⟩:=(op23).one Try.underlying23 rfl (fun l => .lst (l.map eI)) (fun _=>rfl) (hval 0 23 v0 rfl rfl) h0
  obtain⟨a1,k1,x1⟩:=(op23).one Try.underlying23 rfl (fun l => .lst (l.map eI)) (fun _=>rfl) (hval 1 23 v1 rfl rfl) h1
  obtain⟨a2,k2,x2⟩:=(op23).one Try.underlying23 rfl (fun l => .lst (l.map eI)) (fun _=>rfl) (hval 2 23 v2 rfl rfl) h2
  obtain⟨a3,k3,x3⟩:=(op23).one Try.underlying23 rfl (fun l => .lst (l.map eI)) (fun _=>rfl) (hval 3 23 v3 rfl rfl) h3
  exact PC.row Try.laidOut (SearchOrder_ok a0 k0 a1 k1 a2 k2 a3 k3) rfl (vrs_arr (vrs_cons x0 (vrs_cons x1 (vrs_cons x2 (vrs_cons x3 (vrs_nil)))))) hW' rfl rfl (by kernel_rfl) rfl Try.underlying4
theorem SearchOrder_holds:Rows.SearchOrderSaid :=
  OpenClaim.holds_of_wide 10 Try.f10 rfl rfl rfl rfl rfl rfl rfl ⟨rfl,rfl,rfl,rfl,rfl⟩ rfl rfl rfl rfl rfl (by kernel_rfl) Try.func10 joined
    (of_decide_eq_true (by kernel_rfl)) (by unfold Func.isWrapper;first | (rw[if_pos (by decide +kernel)];kernel_rfl) | (rw[if_neg (by decide +kernel)];exact⟨rfl,rfl⟩))
    (fun os started H enc _=>searchOrder_lifted os started H enc)
end Go.Proofs.Ytfgfckgbefnnaaa
