/- GeomMoved: the law GeomMoved of the given program returns true at every input, and the input reads as before. No condition. -/
import Derived.Test.YtlfpkjlaajfjnaaYGeomMoved0
import Derived.Test.YtlfpkjlaajfjnaaRows
import Derived.ProofKit
import Derived.Test.YtlfpkjlaajfjnaaPGeomMoved0
set_option linter.unusedVariables false
set_option maxHeartbeats 4000000
set_option linter.unusedSimpArgs false
set_option maxRecDepth 100000
namespace Go.Proofs.Ytlfpkjlaajfjnaa
open Go Go.Sh Go.Px Go.ChangeShapes Go.WideShapes Go.ChangeAt Go.RowKit
attribute [local irreducible] Go.Sh.T Go.Sh.RunT Go.Sh.RunD
theorem Try.own:ownKnob Try.prog.godebug=none:=by kernel_rfl
theorem Try.laidOut:laidOutB Try.prog=true:=by kernel_rfl
theorem op3:Opens Try.prog 3 1 (fun n:Int=>[SV.v (.int .i64 n)]) okI:=(opens_int Try.underlying3 (by kernel_rfl)).map (fun x=>x) (fun _=>rfl) (fun _ h=>lit_i64 h) (fun _=>rfl)
theorem op23:Opens Try.prog 23 1 (fun l:(List Int)=>[SV.lst (l.map eI)]) okLI:=opens_slice Try.underlying23 (by kernel_rfl) op3 (by decide) eI (fun _=>rfl)
theorem GeomMoved_ok (a0:(List Int)) (h0:okLI a0) (a1:Int) (h1:okI a1) (a2:Int) (h2:okI a2) (a3:Int) (h3:okI a3):PC Try.prog false 5 [.lst (List.map eI a0),.v (.int .i64 a1),.v (.int .i64 a2),.v (.int .i64 a3)] (.v (.bool true)):=by
  obtain⟨k,H⟩:=Go.Px.GeomMoved_true a0 h0 a1 h1 a2 h2 a3 h3
  exact law6_GeomMoved_pc false k a0 a1 a2 a3 true H
theorem Try.ws_app:∀(w r:List Char),(∀c,c ∈ w→c ≠ (Char.ofNat 32))→wordsSigns (w++(Char.ofNat 32)::r)=w::wordsSigns r
  | [],r,_=>by rw[List.nil_append,wordsSigns]
  | c::w,r,h=>by
    have hc:=h c (List.mem_cons_self ..)
    rw[List.cons_append,wordsSigns,Try.ws_app w r fun d hd=>h d (List.mem_cons_of_mem _ hd)]
    exact hc
theorem Try.ws_last:∀(w:List Char),(∀c,c ∈ w→c ≠ (Char.ofNat 32))→wordsSigns w=[w]
  | [],_=>by rw[wordsSigns]
  | c::w,h=>by
    have hc:=h c (List.mem_cons_self ..)
    rw[wordsSigns,Try.ws_last w fun d hd=>h d (List.mem_cons_of_mem _ hd)]
    exact hc
theorem Try.noSp {w:List Char} (h:(w.all fun c => !(c == (Char.ofNat 32)))=true):∀c,c ∈ w→c ≠ (Char.ofNat 32):=fun c hc e=>by
  have:=List.all_eq_true.1 h c hc
  rw[e] at this
  cases this
def Try.w0:List Char:=[104,97,114,110,101,115,115].map Char.ofNat
def Try.w1:List Char:=[50,50,98,53,56,53,99,49,48,54,101,100,97,99,48,57,98,50,100,49,102,56,98,57,54,55,49,56,102,51,49,50,51,102,50,52,48,54,53,55,57,57,49,97,100,50,54,102,100,99,57,57,100,57,51,52,98,52,48,54,49,101,53,52].map Char.ofNat
def Try.w2:List Char:=[99,117,116].map Char.ofNat
def Try.w3:List Char:=[97,116].map Char.ofNat
def Try.w4:List Char:=[112,97,114,116,101,114,114,101,47,112,97,114,116,101,114,114,101,108,97,119,54,46,71,101,111,109,65,115,107,115].map Char.ofNat
def Try.w5:List Char:=[112,97,114,116,101,114,114,101,47,112,97,114,116,101,114,114,101,108,97,119,54,46,71,101,111,109,70,97,114].map Char.ofNat
def Try.w6:List Char:=[112,97,114,116,101,114,114,101,47,112,97,114,116,101,114,114,101,108,97,119,54,46,71,101,111,109,77,111,118,101,100].map Char.ofNat
def Try.w7:List Char:=[112,97,114,116,101,114,114,101,47,112,97,114,116,101,114,114,101,108,97,119,54,46,71,101,111,109,78,101,97,114].map Char.ofNat
def Try.w8:List Char:=[112,97,114,116,101,114,114,101,47,112,97,114,116,101,114,114,101,108,97,119,55,46,82,117,110,65,115,107,115].map Char.ofNat
def Try.w9:List Char:=[112,97,114,116,101,114,114,101,47,112,97,114,116,101,114,114,101,108,97,119,55,46,82,117,110,80,105,101,99,101,115].map Char.ofNat
def Try.w10:List Char:=[112,97,114,116,101,114,114,101,47,112,97,114,116,101,114,114,101,108,97,119,55,46,82,117,110,79,102].map Char.ofNat
def Try.w11:List Char:=[112,97,114,116,101,114,114,101,47,112,97,114,116,101,114,114,101,108,97,119,55,46,82,117,110,71,97,112].map Char.ofNat
def Try.w12:List Char:=[112,97,114,116,101,114,114,101,47,112,97,114,116,101,114,114,101,108,97,119,56,46,75,105,108,108,65,115,107,115].map Char.ofNat
def Try.w13:List Char:=[112,97,114,116,101,114,114,101,47,112,97,114,116,101,114,114,101,108,97,119,56,46,75,105,108,108,77,111,114,101].map Char.ofNat
def Try.w14:List Char:=[112,97,114,116,101,114,114,101,47,112,97,114,116,101,114,114,101,108,97,119,56,46,75,105,108,108,80,97,114,116,115].map Char.ofNat
def Try.w15:List Char:=[112,97,114,116,101,114,114,101,47,112,97,114,116,101,114,114,101,108,97,119,56,46,75,105,108,108,78,101,97,114].map Char.ofNat
def Try.w16:List Char:=[112,97,114,116,101,114,114,101,47,112,97,114,116,101,114,114,101,108,97,119,49,49,46,80,108,97,99,101,76,111,110,103].map Char.ofNat
def Try.w17:List Char:=[112,97,114,116,101,114,114,101,47,112,97,114,116,101,114,114,101,108,97,119,49,49,46,80,108,97,99,101,65,115,107,115].map Char.ofNat
def Try.w18:List Char:=[112,97,114,116,101,114,114,101,47,112,97,114,116,101,114,114,101,108,97,119,49,49,46,80,108,97,99,101,65,112,97,114,116].map Char.ofNat
def Try.w19:List Char:=[112,97,114,116,101,114,114,101,47,112,97,114,116,101,114,114,101,108,97,119,49,49,46,80,108,97,99,101,75,105,108,108,101,100].map Char.ofNat
def Try.w20:List Char:=[112,97,114,116,101,114,114,101,47,112,97,114,116,101,114,114,101,108,97,119,49,49,46,80,108,97,99,101,82,97,100,105,117,115].map Char.ofNat
def Try.w21:List Char:=[112,97,114,116,101,114,114,101,47,112,97,114,116,101,114,114,101,108,97,119,49,50,46,80,108,97,110,80,105,110,115].map Char.ofNat
def Try.w22:List Char:=[112,97,114,116,101,114,114,101,47,112,97,114,116,101,114,114,101,108,97,119,49,50,46,80,108,97,110,76,101,115,115].map Char.ofNat
def Try.w23:List Char:=[112,97,114,116,101,114,114,101,47,112,97,114,116,101,114,114,101,108,97,119,49,50,46,80,108,97,110,79,119,110,101,114,115].map Char.ofNat
def Try.w24:List Char:=[112,97,114,116,101,114,114,101,47,112,97,114,116,101,114,114,101,108,97,119,49,50,46,80,108,97,110,83,101,97,116,115].map Char.ofNat
def Try.w25:List Char:=[112,97,114,116,101,114,114,101,47,112,97,114,116,101,114,114,101,108,97,119,49,51,46,66,111,117,110,100,65,115,107,115].map Char.ofNat
def Try.w26:List Char:=[112,97,114,116,101,114,114,101,47,112,97,114,116,101,114,114,101,108,97,119,49,51,46,66,111,117,110,100,77,111,115,116].map Char.ofNat
def Try.w27:List Char:=[112,97,114,116,101,114,114,101,47,112,97,114,116,101,114,114,101,108,97,119,49,51,46,66,111,117,110,100,79,112,101,110].map Char.ofNat
def Try.w28:List Char:=[112,97,114,116,101,114,114,101,47,112,97,114,116,101,114,114,101,108,97,119,49,51,46,66,111,117,110,100,80,105,110,115].map Char.ofNat
theorem Try.io:Try.prog.initOrder=String.ofList (Try.w0++(Char.ofNat 32)::(Try.w1++(Char.ofNat 32)::(Try.w2++(Char.ofNat 32)::(Try.w3++(Char.ofNat 32)::(Try.w4++(Char.ofNat 32)::(Try.w5++(Char.ofNat 32)::(Try.w6++(Char.ofNat 32)::(Try.w7++(Char.ofNat 32)::(Try.w8++(Char.ofNat 32)::(Try.w9++(Char.ofNat 32)::(Try.w10++(Char.ofNat 32)::(Try.w11++(Char.ofNat 32)::(Try.w12++(Char.ofNat 32)::(Try.w13++(Char.ofNat 32)::(Try.w14++(Char.ofNat 32)::(Try.w15++(Char.ofNat 32)::(Try.w16++(Char.ofNat 32)::(Try.w17++(Char.ofNat 32)::(Try.w18++(Char.ofNat 32)::(Try.w19++(Char.ofNat 32)::(Try.w20++(Char.ofNat 32)::(Try.w21++(Char.ofNat 32)::(Try.w22++(Char.ofNat 32)::(Try.w23++(Char.ofNat 32)::(Try.w24++(Char.ofNat 32)::(Try.w25++(Char.ofNat 32)::(Try.w26++(Char.ofNat 32)::(Try.w27++(Char.ofNat 32)::(Try.w28))))))))))))))))))))))))))))):=by kernel_rfl
theorem Try.io2:wordsSigns Try.prog.initOrder.toList=[Try.w0,Try.w1,Try.w2,Try.w3,Try.w4,Try.w5,Try.w6,Try.w7,Try.w8,Try.w9,Try.w10,Try.w11,Try.w12,Try.w13,Try.w14,Try.w15,Try.w16,Try.w17,Try.w18,Try.w19,Try.w20,Try.w21,Try.w22,Try.w23,Try.w24,Try.w25,Try.w26,Try.w27,Try.w28]:=by
  rw[Try.io,String.toList_ofList,Try.ws_app Try.w0 _ (Try.noSp (by kernel_rfl)),Try.ws_app Try.w1 _ (Try.noSp (by kernel_rfl)),Try.ws_app Try.w2 _ (Try.noSp (by kernel_rfl)),Try.ws_app Try.w3 _ (Try.noSp (by kernel_rfl)),Try.ws_app Try.w4 _ (Try.noSp (by kernel_rfl)),Try.ws_app Try.w5 _ (Try.noSp (by kernel_rfl)),Try.ws_app Try.w6 _ (Try.noSp (by kernel_rfl)),Try.ws_app Try.w7 _ (Try.noSp (by kernel_rfl)),Try.ws_app Try.w8 _ (Try.noSp (by kernel_rfl)),Try.ws_app Try.w9 _ (Try.noSp (by kernel_rfl)),Try.ws_app Try.w10 _ (Try.noSp (by kernel_rfl)),Try.ws_app Try.w11 _ (Try.noSp (by kernel_rfl)),Try.ws_app Try.w12 _ (Try.noSp (by kernel_rfl)),Try.ws_app Try.w13 _ (Try.noSp (by kernel_rfl)),Try.ws_app Try.w14 _ (Try.noSp (by kernel_rfl)),Try.ws_app Try.w15 _ (Try.noSp (by kernel_rfl)),Try.ws_app Try.w16 _ (Try.noSp (by kernel_rfl)),Try.ws_app Try.w17 _ (Try.noSp (by kernel_rfl)),Try.ws_app Try.w18 _ (Try.noSp (by kernel_rfl)),Try.ws_app Try.w19 _ (Try.noSp (by kernel_rfl)),Try.ws_app Try.w20 _ (Try.noSp (by kernel_rfl)),Try.ws_app Try.w21 _ (Try.noSp (by kernel_rfl)),Try.ws_app Try.w22 _ (Try.noSp (by kernel_rfl)),Try.ws_app Try.w23 _ (Try.noSp (by kernel_rfl)),Try.ws_app Try.w24 _ (Try.noSp (by kernel_rfl)),Try.ws_app Try.w25 _ (Try.noSp (by kernel_rfl)),Try.ws_app Try.w26 _ (Try.noSp (by kernel_rfl)),Try.ws_app Try.w27 _ (Try.noSp (by kernel_rfl)),Try.ws_last _ (Try.noSp (by kernel_rfl))]
theorem Try.bm:behindMainWord (wordsSigns Try.prog.initOrder.toList)=[Try.w2,Try.w3,Try.w4,Try.w5,Try.w6,Try.w7,Try.w8,Try.w9,Try.w10,Try.w11,Try.w12,Try.w13,Try.w14,Try.w15,Try.w16,Try.w17,Try.w18,Try.w19,Try.w20,Try.w21,Try.w22,Try.w23,Try.w24,Try.w25,Try.w26,Try.w27,Try.w28]:=by rw[Try.io2];kernel_rfl
theorem Try.la:Try.prog.laysLater=false:=by kernel_rfl
theorem Try.be:Try.prog.bearsReflect=false:=by kernel_rfl
theorem Try.do:Try.prog.doorFits []=true:=by kernel_rfl
theorem Try.st:stripLifts liftWords [Try.w2,Try.w3,Try.w4,Try.w5,Try.w6,Try.w7,Try.w8,Try.w9,Try.w10,Try.w11,Try.w12,Try.w13,Try.w14,Try.w15,Try.w16,Try.w17,Try.w18,Try.w19,Try.w20,Try.w21,Try.w22,Try.w23,Try.w24,Try.w25,Try.w26,Try.w27,Try.w28]=([],[Try.w2,Try.w3,Try.w4,Try.w5,Try.w6,Try.w7,Try.w8,Try.w9,Try.w10,Try.w11,Try.w12,Try.w13,Try.w14,Try.w15,Try.w16,Try.w17,Try.w18,Try.w19,Try.w20,Try.w21,Try.w22,Try.w23,Try.w24,Try.w25,Try.w26,Try.w27,Try.w28]):=by kernel_rfl
theorem Try.ent_of (P:Program) (c:List Char) (r r2:List (List Char)) (h:behindMainWord (wordsSigns P.initOrder.toList)=c::r) (hs:stripLifts liftWords (c::r)=([],r2)) (hc:r2.head?=some "cut".toList) (la:P.laysLater=false) (be:P.bearsReflect=false) (df:P.doorFits []=true):P.mayEnter=true:=by
  unfold Program.mayEnter
  rw[h]
  simp only[hs,hc,la,be,df]
  simp
theorem Try.hd:List.head? [Try.w2,Try.w3,Try.w4,Try.w5,Try.w6,Try.w7,Try.w8,Try.w9,Try.w10,Try.w11,Try.w12,Try.w13,Try.w14,Try.w15,Try.w16,Try.w17,Try.w18,Try.w19,Try.w20,Try.w21,Try.w22,Try.w23,Try.w24,Try.w25,Try.w26,Try.w27,Try.w28]=some "cut".toList:=by kernel_rfl
theorem Try.ent:Try.prog.mayEnter=true:=Try.ent_of Try.prog _ _ _ Try.bm Try.st Try.hd Try.la Try.be Try.do
theorem Try.lf:Try.prog.liftsFinal=false:=by unfold Program.liftsFinal Program.headLifts;rw[Try.bm];kernel_rfl
theorem Try.mk_of (P:Program) (c:List Char) (r:List (List Char)) (h:behindMainWord (wordsSigns P.initOrder.toList)=c::r) (h1:(c == "gc".toList)=false) (h2:(c == "spec".toList)=false) (h3:(c == "cut".toList)=true):P.make=some .cut:=by
  unfold Program.make
  rw[h]
  simp only[h1,h2,h3]
  simp
theorem Try.mk:Try.prog.make=some .cut:=Try.mk_of Try.prog _ _ Try.bm (by kernel_rfl) (by kernel_rfl) (by kernel_rfl)
theorem Try.lfc:(Rows.geomMovedRow.lifted == Try.prog.liftsFinal)=true:=by rw[Try.lf];kernel_rfl
theorem Try.mkc:(Try.prog.make == some Rows.geomMovedRow.make)=true:=by rw[Try.mk];kernel_rfl
theorem joined:joinedFacts Try.prog 5 Try.f5 Rows.geomMovedSpec Rows.geomMovedRow=true:=by
  unfold joinedFacts
  simp only[Bool.and_eq_true]
  repeat' apply And.intro
  all_goals first | with_reducible exact Try.ent | with_reducible exact Try.lfc | with_reducible exact Try.mkc | kernel_rfl
set_option maxRecDepth 100000 in
theorem geomMoved_lifted (os:Os) (started:os.Started) (H:Type) (enc:TypeId×Value→H) :
    ReturnsInHanded {} Try.checked os 5 .any (Rows.geomMovedSpec.pre6 enc Try.prog Try.f5 Rows.geomMovedRow.domain false) (Rows.geomMovedSpec.post enc Try.prog Try.f5 false true false false):=by
  refine returnsInHanded_of_change (C:=Try.checked) Try.own started (by kernel_rfl) Try.func5 (ChangeSpec.witness6 (enc:=enc) (C:=Try.checked) false ⟨#[],#[.slice none 0 0,.int .i64 0,.int .i64 0,.int .i64 0],[]⟩ 8 (by kernel_rfl) (by kernel_rfl) (by kernel_rfl) (by kernel_rfl)) ?_
  intro W base args ds gs before hval0 hW hcnd _
  have hval:∀(j:Nat) t v,Try.f5.params[j]?=some t→args[j]?=some v→Value.okWide Try.prog W .any base t v:=hval0
  have hW':=hW
  obtain⟨p,q,hA0,hV,hpq,hfz,hnd⟩:=hW
  have hA:DataW.TrodAll enc Try.prog W 0 (fun _=>true) true Try.f5.params.toList args.toList ds p:=hA0
  rw[Try.params5] at hA hval
  obtain⟨v0,vs0,d0,ds0,p0,q0,hargs,rfl,rfl,h0,r0⟩:=trodAll_cons hA
  obtain⟨v1,vs1,d1,ds1,p1,q1,rfl,rfl,rfl,h1,r1⟩:=trodAll_cons r0
  obtain⟨v2,vs2,d2,ds2,p2,q2,rfl,rfl,rfl,h2,r2⟩:=trodAll_cons r1
  obtain⟨v3,vs3,d3,ds3,p3,q3,rfl,rfl,rfl,h3,r3⟩:=trodAll_cons r2
  obtain⟨rfl,rfl,rfl⟩:=trodAll_nil r3
  obtain rfl:args = #[v0,v1,v2,v3]:=by cases args;simp_all
  obtain⟨rfl,rfl⟩:=trodVars_none hV
  obtain⟨a0,k0,x0⟩:=(op23).one Try.underlying23 rfl (fun l => .lst (l.map eI)) (fun _=>rfl) (hval 0 23 v0 rfl rfl) h0
  obtain⟨a1,k1,x1⟩:=(op3).one Try.underlying3 rfl (fun n => .v (.int .i64 n)) (fun _=>rfl) (hval 1 3 v1 rfl rfl) h1
  obtain⟨a2,k2,x2⟩:=(op3).one Try.underlying3 rfl (fun n => .v (.int .i64 n)) (fun _=>rfl) (hval 2 3 v2 rfl rfl) h2
  obtain⟨a3,k3,x3⟩:=(op3).one Try.underlying3 rfl (fun n => .v (.int .i64 n)) (fun _=>rfl) (hval 3 3 v3 rfl rfl) h3
  exact PC.row Try.laidOut (GeomMoved_ok a0 k0 a1 k1 a2 k2 a3 k3) rfl (vrs_arr (vrs_cons x0 (vrs_cons x1 (vrs_cons x2 (vrs_cons x3 (vrs_nil)))))) hW' rfl rfl (by kernel_rfl) rfl Try.underlying4
theorem GeomMoved_holds:Rows.GeomMovedSaid :=
  OpenClaim.holds_of_wide 5 Try.f5 rfl rfl rfl rfl rfl rfl rfl ⟨rfl,rfl,rfl,rfl,rfl⟩ rfl rfl rfl rfl rfl (by kernel_rfl) Try.func5 joined
    (of_decide_eq_true (by kernel_rfl)) (by unfold Func.isWrapper;first | (rw[if_pos (by decide +kernel)];kernel_rfl) | (rw[if_neg (by decide +kernel)];exact⟨rfl,rfl⟩))
    (fun os started H enc _=>geomMoved_lifted os started H enc)
end Go.Proofs.Ytlfpkjlaajfjnaa
