/- ResolveFuel: the law ResolveFuel of the given program returns true at every input, and the input reads as before. No condition. -/
import Derived.Test.YtfgfckgbefnnaaaGreatYResolveFuel2
import Derived.Test.YtfgfckgbefnnaaaGreatRows
import Derived.ProofKit
import Derived.Test.YtfgfckgbefnnaaaGreatPResolveFuel1
set_option linter.unusedVariables false
set_option maxHeartbeats 4000000
set_option linter.unusedSimpArgs false
set_option maxRecDepth 100000
namespace Go.Proofs.YtfgfckgbefnnaaaGreat
open Go Go.Sh Go.Px Go.ChangeShapes Go.WideShapes Go.ChangeAt Go.RowKit
attribute [local irreducible] Go.Sh.T Go.Sh.RunT Go.Sh.RunD
theorem Tryz.own:ownKnob Tryz.prog.godebug=none:=by kernel_rfl
theorem Tryz.laidOut:laidOutB Tryz.prog=true:=by kernel_rfl
theorem op3:Opens Tryz.prog 3 1 (fun n:Int=>[SV.v (.int .i64 n)]) okI:=(opens_int Tryz.underlying3 (by kernel_rfl)).map (fun x=>x) (fun _=>rfl) (fun _ h=>lit_i64 h) (fun _=>rfl)
theorem op22:Opens Tryz.prog 22 1 (fun l:(List Int)=>[SV.lst (l.map eI)]) okLI:=opens_slice Tryz.underlying22 (by kernel_rfl) op3 (by decide) eI (fun _=>rfl)
theorem ResolveFuel_ok (a0:(List Int)) (h0:okLI a0) (a1:(List Int)) (h1:okLI a1) (a2:Int) (h2:okI a2) (a3:Int) (h3:okI a3) (a4:Int) (h4:okI a4):PC Tryz.prog false 5 [.lst (List.map eI a0),.lst (List.map eI a1),.v (.int .i64 a2),.v (.int .i64 a3),.v (.int .i64 a4)] (.v (.bool true)):=by
  obtain⟨k,H⟩:=Go.Px.ResolveFuel_true a0 h0 a1 h1 a2 h2 a3 h3 a4 h4
  exact law18_ResolveFuel_pc false k a0 a1 a2 a3 a4 true H
theorem Tryz.ws_app:∀(w r:List Char),(∀c,c ∈ w→c ≠ (Char.ofNat 32))→wordsSigns (w++(Char.ofNat 32)::r)=w::wordsSigns r
  | [],r,_=>by rw[List.nil_append,wordsSigns]
  | c::w,r,h=>by
    have hc:=h c (List.mem_cons_self ..)
    rw[List.cons_append,wordsSigns,Tryz.ws_app w r fun d hd=>h d (List.mem_cons_of_mem _ hd)]
    exact hc
theorem Tryz.ws_last:∀(w:List Char),(∀c,c ∈ w→c ≠ (Char.ofNat 32))→wordsSigns w=[w]
  | [],_=>by rw[wordsSigns]
  | c::w,h=>by
    have hc:=h c (List.mem_cons_self ..)
    rw[wordsSigns,Tryz.ws_last w fun d hd=>h d (List.mem_cons_of_mem _ hd)]
    exact hc
theorem Tryz.noSp {w:List Char} (h:(w.all fun c => !(c == (Char.ofNat 32)))=true):∀c,c ∈ w→c ≠ (Char.ofNat 32):=fun c hc e=>by
  have:=List.all_eq_true.1 h c hc
  rw[e] at this
  cases this
def Tryz.w0:List Char:=[104,97,114,110,101,115,115].map Char.ofNat
def Tryz.w1:List Char:=[56,53,50,97,101,54,48,57,101,51,56,55,102,100,97,54,57,54,48,98,101,97,101,99,49,100,55,55,51,102,56,102,57,100,102,51,102,102,102,52,48,57,49,48,97,56,98,99,51,99,49,97,52,55,53,48,54,50,101,51,57,48,53,101].map Char.ofNat
def Tryz.w2:List Char:=[99,117,116].map Char.ofNat
def Tryz.w3:List Char:=[97,116].map Char.ofNat
def Tryz.w4:List Char:=[112,97,114,116,101,114,114,101,47,112,97,114,116,101,114,114,101,108,97,119,49,53,46,83,101,97,114,99,104,66,101,115,116].map Char.ofNat
def Tryz.w5:List Char:=[112,97,114,116,101,114,114,101,47,112,97,114,116,101,114,114,101,108,97,119,49,56,46,82,101,115,111,108,118,101,65,115,107,115].map Char.ofNat
def Tryz.w6:List Char:=[112,97,114,116,101,114,114,101,47,112,97,114,116,101,114,114,101,108,97,119,49,56,46,82,101,115,111,108,118,101,70,117,101,108].map Char.ofNat
def Tryz.w7:List Char:=[112,97,114,116,101,114,114,101,47,112,97,114,116,101,114,114,101,108,97,119,49,56,46,82,101,115,111,108,118,101,87,105,116,104,111,117,116].map Char.ofNat
def Tryz.w8:List Char:=[112,97,114,116,101,114,114,101,47,112,97,114,116,101,114,114,101,108,97,119,49,56,46,82,101,115,111,108,118,101,87,105,116,104].map Char.ofNat
def Tryz.w9:List Char:=[112,97,114,116,101,114,114,101,47,112,97,114,116,101,114,114,101,108,97,119,49,55,46,67,101,114,116,65,115,107,115].map Char.ofNat
def Tryz.w10:List Char:=[112,97,114,116,101,114,114,101,47,112,97,114,116,101,114,114,101,108,97,119,49,55,46,67,101,114,116,83,111,117,110,100].map Char.ofNat
def Tryz.w11:List Char:=[112,97,114,116,101,114,114,101,47,112,97,114,116,101,114,114,101,108,97,119,49,55,46,67,101,114,116,67,111,109,112,108,101,116,101].map Char.ofNat
def Tryz.w12:List Char:=[112,97,114,116,101,114,114,101,47,112,97,114,116,101,114,114,101,108,97,119,49,55,46,67,101,114,116,78,101,101,100].map Char.ofNat
def Tryz.w13:List Char:=[112,97,114,116,101,114,114,101,47,112,97,114,116,101,114,114,101,108,97,119,49,56,46,82,101,115,111,108,118,101,77,111,115,116].map Char.ofNat
def Tryz.w14:List Char:=[112,97,114,116,101,114,114,101,47,112,97,114,116,101,114,114,101,108,97,119,49,55,46,67,101,114,116,82,101,97,100].map Char.ofNat
theorem Tryz.io:Tryz.prog.initOrder=String.ofList (Tryz.w0++(Char.ofNat 32)::(Tryz.w1++(Char.ofNat 32)::(Tryz.w2++(Char.ofNat 32)::(Tryz.w3++(Char.ofNat 32)::(Tryz.w4++(Char.ofNat 32)::(Tryz.w5++(Char.ofNat 32)::(Tryz.w6++(Char.ofNat 32)::(Tryz.w7++(Char.ofNat 32)::(Tryz.w8++(Char.ofNat 32)::(Tryz.w9++(Char.ofNat 32)::(Tryz.w10++(Char.ofNat 32)::(Tryz.w11++(Char.ofNat 32)::(Tryz.w12++(Char.ofNat 32)::(Tryz.w13++(Char.ofNat 32)::(Tryz.w14))))))))))))))):=by kernel_rfl
theorem Tryz.io2:wordsSigns Tryz.prog.initOrder.toList=[Tryz.w0,Tryz.w1,Tryz.w2,Tryz.w3,Tryz.w4,Tryz.w5,Tryz.w6,Tryz.w7,Tryz.w8,Tryz.w9,Tryz.w10,Tryz.w11,Tryz.w12,Tryz.w13,Tryz.w14]:=by
  rw[Tryz.io,String.toList_ofList,Tryz.ws_app Tryz.w0 _ (Tryz.noSp (by kernel_rfl)),Tryz.ws_app Tryz.w1 _ (Tryz.noSp (by kernel_rfl)),Tryz.ws_app Tryz.w2 _ (Tryz.noSp (by kernel_rfl)),Tryz.ws_app Tryz.w3 _ (Tryz.noSp (by kernel_rfl)),Tryz.ws_app Tryz.w4 _ (Tryz.noSp (by kernel_rfl)),Tryz.ws_app Tryz.w5 _ (Tryz.noSp (by kernel_rfl)),Tryz.ws_app Tryz.w6 _ (Tryz.noSp (by kernel_rfl)),Tryz.ws_app Tryz.w7 _ (Tryz.noSp (by kernel_rfl)),Tryz.ws_app Tryz.w8 _ (Tryz.noSp (by kernel_rfl)),Tryz.ws_app Tryz.w9 _ (Tryz.noSp (by kernel_rfl)),Tryz.ws_app Tryz.w10 _ (Tryz.noSp (by kernel_rfl)),Tryz.ws_app Tryz.w11 _ (Tryz.noSp (by kernel_rfl)),Tryz.ws_app Tryz.w12 _ (Tryz.noSp (by kernel_rfl)),Tryz.ws_app Tryz.w13 _ (Tryz.noSp (by kernel_rfl)),Tryz.ws_last _ (Tryz.noSp (by kernel_rfl))]
theorem Tryz.bm:behindMainWord (wordsSigns Tryz.prog.initOrder.toList)=[Tryz.w2,Tryz.w3,Tryz.w4,Tryz.w5,Tryz.w6,Tryz.w7,Tryz.w8,Tryz.w9,Tryz.w10,Tryz.w11,Tryz.w12,Tryz.w13,Tryz.w14]:=by rw[Tryz.io2];kernel_rfl
theorem Tryz.la:Tryz.prog.laysLater=false:=by kernel_rfl
theorem Tryz.be:Tryz.prog.bearsReflect=false:=by kernel_rfl
theorem Tryz.do:Tryz.prog.doorFits []=true:=by kernel_rfl
theorem Tryz.st:stripLifts liftWords [Tryz.w2,Tryz.w3,Tryz.w4,Tryz.w5,Tryz.w6,Tryz.w7,Tryz.w8,Tryz.w9,Tryz.w10,Tryz.w11,Tryz.w12,Tryz.w13,Tryz.w14]=([],[Tryz.w2,Tryz.w3,Tryz.w4,Tryz.w5,Tryz.w6,Tryz.w7,Tryz.w8,Tryz.w9,Tryz.w10,Tryz.w11,Tryz.w12,Tryz.w13,Tryz.w14]):=by kernel_rfl
theorem Tryz.ent_of (P:Program) (c:List Char) (r r2:List (List Char)) (h:behindMainWord (wordsSigns P.initOrder.toList)=c::r) (hs:stripLifts liftWords (c::r)=([],r2)) (hc:r2.head?=some "cut".toList) (la:P.laysLater=false) (be:P.bearsReflect=false) (df:P.doorFits []=true):P.mayEnter=true:=by
  unfold Program.mayEnter
  rw[h]
  simp only[hs,hc,la,be,df]
  simp
theorem Tryz.hd:List.head? [Tryz.w2,Tryz.w3,Tryz.w4,Tryz.w5,Tryz.w6,Tryz.w7,Tryz.w8,Tryz.w9,Tryz.w10,Tryz.w11,Tryz.w12,Tryz.w13,Tryz.w14]=some "cut".toList:=by kernel_rfl
theorem Tryz.ent:Tryz.prog.mayEnter=true:=Tryz.ent_of Tryz.prog _ _ _ Tryz.bm Tryz.st Tryz.hd Tryz.la Tryz.be Tryz.do
theorem Tryz.lf:Tryz.prog.liftsFinal=false:=by unfold Program.liftsFinal Program.headLifts;rw[Tryz.bm];kernel_rfl
theorem Tryz.mk_of (P:Program) (c:List Char) (r:List (List Char)) (h:behindMainWord (wordsSigns P.initOrder.toList)=c::r) (h1:(c == "gc".toList)=false) (h2:(c == "spec".toList)=false) (h3:(c == "cut".toList)=true):P.make=some .cut:=by
  unfold Program.make
  rw[h]
  simp only[h1,h2,h3]
  simp
theorem Tryz.mk:Tryz.prog.make=some .cut:=Tryz.mk_of Tryz.prog _ _ Tryz.bm (by kernel_rfl) (by kernel_rfl) (by kernel_rfl)
theorem Tryz.lfc:(Rows.resolveFuelRow.lifted == Tryz.prog.liftsFinal)=true:=by rw[Tryz.lf];kernel_rfl
theorem Tryz.mkc:(Tryz.prog.make == some Rows.resolveFuelRow.make)=true:=by rw[Tryz.mk];kernel_rfl
theorem joined:joinedFacts Tryz.prog 5 Tryz.f5 Rows.resolveFuelSpec Rows.resolveFuelRow=true:=by
  unfold joinedFacts
  simp only[Bool.and_eq_true]
  repeat' apply And.intro
  all_goals first | with_reducible exact Tryz.ent | with_reducible exact Tryz.lfc | with_reducible exact Tryz.mkc | kernel_rfl
set_option maxRecDepth 100000 in
theorem resolveFuel_lifted (os:Os) (started:os.Started) (H:Type) (enc:TypeId×Value→H) :
    ReturnsInHanded {} Tryz.checked os 5 .any (Rows.resolveFuelSpec.pre6 enc Tryz.prog Tryz.f5 Rows.resolveFuelRow.domain false) (Rows.resolveFuelSpec.post enc Tryz.prog Tryz.f5 false true false false):=by
  refine returnsInHanded_of_change (C:=Tryz.checked) Tryz.own started (by kernel_rfl) Tryz.func5 (ChangeSpec.witness6 (enc:=enc) (C:=Tryz.checked) false ⟨#[],#[.slice none 0 0,.slice none 0 0,.int .i64 0,.int .i64 0,.int .i64 0],[]⟩ 8 (by kernel_rfl) (by kernel_rfl) (by kernel_rfl) (by kernel_rfl)) ?_
  intro W base args ds gs before hval0 hW hcnd _
  have hval:∀(j:Nat) t v,Tryz.f5.params[j]?=some t→args[j]?=some v→Value.okWide Tryz.prog W .any base t v:=hval0
  have hW':=hW
  obtain⟨p,q,hA0,hV,hpq,hfz,hnd⟩:=hW
  have hA:DataW.TrodAll enc Tryz.prog W 0 (fun _=>true) true Tryz.f5.params.toList args.toList ds p:=hA0
  rw[Tryz.params5] at hA hval
  obtain⟨v0,vs0,d0,ds0,p0,q0,hargs,rfl,rfl,h0,r0⟩:=trodAll_cons hA
  obtain⟨v1,vs1,d1,ds1,p1,q1,rfl,rfl,rfl,h1,r1⟩:=trodAll_cons r0
  obtain⟨v2,vs2,d2,ds2,p2,q2,rfl,rfl,rfl,h2,r2⟩:=trodAll_cons r1
  obtain⟨v3,vs3,d3,ds3,p3,q3,rfl,rfl,rfl,h3,r3⟩:=trodAll_cons r2
  obtain⟨v4,vs4,d4,ds4,p4,q4,rfl,rfl,rfl,h4,r4⟩:=trodAll_cons r3
  obtain⟨rfl,rfl,rfl⟩:=trodAll_nil r4
  obtain rfl:args = #[v0,v1,v2,v3,v4]:=by cases args;simp_all
  obtain⟨rfl,rfl⟩:=trodVars_none hV
  obtain⟨a0,k0,x0⟩:=(op22).one Tryz.underlying22 rfl (fun l => .lst (l.map eI)) (fun _=>rfl) (hval 0 22 v0 rfl rfl) h0
  obtain⟨a1,k1,x1⟩:=(op22).one Tryz.underlying22 rfl (fun l => .lst (l.map eI)) (fun _=>rfl) (hval 1 22 v1 rfl rfl) h1
  obtain⟨a2,k2,x2⟩:=(op3).one Tryz.underlying3 rfl (fun n => .v (.int .i64 n)) (fun _=>rfl) (hval 2 3 v2 rfl rfl) h2
  obtain⟨a3,k3,x3⟩:=(op3).one Tryz.underlying3 rfl (fun n => .v (.int .i64 n)) (fun _=>rfl) (hval 3 3 v3 rfl rfl) h3
  obtain⟨a4,k4,x4⟩:=(op3).one Tryz.underlying3 rfl (fun n => .v (.int .i64 n)) (fun _=>rfl) (hval 4 3 v4 rfl rfl) h4
  exact PC.row Tryz.laidOut (ResolveFuel_ok a0 k0 a1 k1 a2 k2 a3 k3 a4 k4) rfl (vrs_arr (vrs_cons x0 (vrs_cons x1 (vrs_cons x2 (vrs_cons x3 (vrs_cons x4 (vrs_nil))))))) hW' rfl rfl (by kernel_rfl) rfl Tryz.underlying4
theorem ResolveFuel_holds:Rows.ResolveFuelSaid :=
  OpenClaim.holds_of_wide 5 Tryz.f5 rfl rfl rfl rfl rfl rfl rfl ⟨rfl,rfl,rfl,rfl,rfl⟩ rfl rfl rfl rfl rfl (by kernel_rfl) Tryz.func5 joined
    (of_decide_eq_true (by kernel_rfl)) (by unfold Func.isWrapper;first | (rw[if_pos (by decide +kernel)];kernel_rfl) | (rw[if_neg (by decide +kernel)];exact⟨rfl,rfl⟩))
    (fun os started H enc _=>resolveFuel_lifted os started H enc)
end Go.Proofs.YtfgfckgbefnnaaaGreat
