/-
  'FnExactRunOffice' answers true whatever the input, and its arguments read afterwards as before; the listed tables are tied to the program's text. No condition.
-/
import Derived.Test.YtfcjiloojkjaeaaGreatDoorTie
import Derived.Conc.LeavingOf
import Derived.Test.YtfcjiloojkjaeaaGreatDoorRunOffPq6
set_option linter.all false
set_option maxHeartbeats 16000000
set_option maxRecDepth 100000
open Go renaming trodAll_cons_mk→zol,undef→aA
open Go.ChangeSpec renaming post_blind→zBZ,witness_shaped→zFd
open Go.DataW renaming trod_int→Xf,trod_lt→zvn
open Go.DataW.Whole renaming of_heap→zEq
open Go.OpenSpec renaming ofChange→ztv
open Go.Proofs.Tryz renaming checked→vE,f3→D9,func3→zdw,prog→aK,underlying24→zjt,underlying3→Z5
open Go.RowKit.Below renaming trod→zxK
open Go.Value renaming int→Qo
open Option.some renaming inj→cE
namespace Go
def uK{P:Prop}(h:P:=by as_aux_lemma=>kernel_rfl):P:=h
end Go
namespace Go.Proofs.YtfcjiloojkjaeaaGreatDoor.fnExactRunOffice
open Go.RowKit Go.ChangeShapes Go.WideShapes Go.ChangeAt Go.Joins Go.Deep Go.Conc Go.Mt Go.Tt
def funcNo:Tryz.pinned.checked.prog.funcNamed "loop.example/channelboard/laws.FnExactRunOffice" =some 3:=aP
def laid0:aK.globals.size<(begin aK (λ_ _=>0) default).world.heap.size:=of_decide_eq_true aP
theorem zBY {W:World}(h:W.ShapedOpen aK):aK.globals.size<=W.heap.size:=by
 obtain⟨_,h2⟩:=h;obtain⟨o,_,h3,_⟩:=h2 aK.globals.size (Nat.le_refl _) laid0;exact Nat.le_of_lt (Array.getElem?_eq_some_iff.1 h3).1
variable {S:FuncId->Prop}
theorem vr_ints {K R:Pr}(l:List Int):VR S K R (.agg (l.map (Qo .i64)).toArray) (.agg (l.map (Qo .i64)).toArray):=
 .agg rfl λi u v h1 h2=>by
  rw[h1] at h2;injection h2 with h2;subst h2;simp at h1;obtain⟨a,_,rfl⟩:=h1;exact .int _ _
theorem lifted (os:Os)(started:os.Started)(H:Type)(enc:TypeId×Value->H):
 ReturnsInLeavingWide {} vE os 3 .any (λw args=>(Rows.fnExactRunOfficeSpec.pre enc aK D9 [] false w args/\laidMetH aK Tr w)/\sizedMet enc aK D9 (ztv Rows.fnExactRunOfficeSpec) false w args)
  (Rows.fnExactRunOfficeSpec.post enc aK D9 false true false false):=by
 refine returnsInLeavingWide_of_good (C:=vE) own started
  (zFd (enc:=enc) (C:=vE) (os:=os) (X:=λw _=>laidMetH aK Tr w) false (World.doorLaid aK 400 os) #[.agg #[.int .i64 0,.int .i64 0,.int .i64 0],.slice none 0 0] 8 rfl (World.shaped_of_RefB aP aP) aP aP aP (zE4 os _)) ?_
 intro w tape i _ zqI _ bV zkZ _;obtain⟨_,_,_,fn',Vz,_,_,_,_,zxD⟩:=bV;obtain rfl:fn'=Tryz.f3:=cE (Vz.symm.trans zdw);obtain⟨⟨⟨ds,gs,before,hw,hc⟩,hL⟩,hz⟩:=zkZ;have hG:=zBY zqI;have Qg:=zEq (w':=w.forCall tape i) J2 hw;have zaE:laidMetH aK Tr (w.forCall tape i):=hL.of_heap J2;clear hw hz zqI hc hL;obtain⟨ib,args,iv⟩:=i;generalize zgE:w.forCall tape ⟨ib,args,iv⟩=W at*;have zeM:∀(j:Nat) t v,D9.params[j]? =some t->args[j]? =some v->Value.okWide aK W .any w.heap.size t v:=zxD;have hW:DataW.Whole enc aK D9.params.toList Rows.fnExactRunOfficeSpec.vars false W args.toList ds gs before:=Qg;clear zxD Qg;have Vo:=hW;obtain⟨p,q,Ke,hV,rfl,mU,lG⟩:=hW;have hA:DataW.TrodAll enc aK W 0 (λ_=>true) true D9.params.toList args.toList ds p:=Ke;rw[Tryz.params3] at hA zeM;obtain⟨v0,zLP,d0,zJX,p0,q0,sZ,rfl,rfl,h0,r0⟩:=trodAll_cons hA;obtain⟨v1,zJR,d1,zLb,p1,q1,rfl,rfl,rfl,h1,r1⟩:=trodAll_cons r0;obtain⟨rfl,rfl,rfl⟩:=trodAll_nil r1;obtain rfl:args=#[v0,v1]:=by cases args;simp_all
 obtain⟨rfl,rfl⟩:=trodVars_none hV;have k0:=h0;have zmt:∀x∈p0,x.block<W.heap.size:=by obtain⟨m,hm⟩:=k0;exact zvn m _ _ _ hm
 obtain⟨b0,b1,b2,y0,y1,y2,n0,rfl,rfl,rfl,Q1,Oz,zDM⟩:=open_agg3 Tryz.underlying23 aP aP (zeM 0 23 v0 rfl rfl) h0;obtain⟨o0,e0,rfl,zJZ⟩:=Xf Z5 Q1;obtain⟨o1,e1,rfl,zMz⟩:=Xf Z5 Oz;obtain⟨o2,e2,rfl,zK0⟩:=Xf Z5 zDM;simp at e0 e1 e2;subst e0 e1 e2;have k1:=h1;have zIj:∀x∈p1,x.block<W.heap.size:=by obtain⟨m,hm⟩:=k1;exact zvn m _ _ _ hm
 obtain⟨A1,n1,c1,rfl⟩:=okWide_slice zjt (zeM 1 24 v1 rfl rfl);have zEx:=zG3 zjt (zeM 1 24 _ rfl rfl);obtain⟨zMK,m1,zFZ⟩:=zyM zjt aP Tryz.underlying56 rfl rfl rfl Tryz.underlying9 Z5 Z5 aP aP aP h1;clear Ke;have hX:=zHO (A1:=A1) (A2:=none) (A3:=none) zaE zEx (λa e=>by cases e) (λa e=>by cases e);have hT:∀g,Ai aK g=true->(Jz A1 none none) g=true:=λg e=>by simp[Jz,e]
 have zon:∀a,A1=some a->(Jz A1 none none) a.block=true:=λa e=>by simp[Jz,Xb,e]
 have zgN:wU (R0 (Jz A1 none none)) A1 A1:=zGy zon;have hJ:=zGz (o:=⟨o0,o1,o2⟩) (w:=Ca (SF gD) (Jz A1 none none) W) (St:=St0 (Jz A1 none none)) (W0:=W) (Post:=λv w'=>v=.bool true/\Below W.heap.size W w') (zI9 hX zon m1 zEE) zFZ (zDe hX hT (of_laid zaE)) (zGQ hX hT) (λR W' hk=>⟨rfl,hk.below⟩);have Bw:bK (SF gD) P0 (R0 (Jz A1 none none)) #[.agg #[.int .i64 o0,.int .i64 o1,.int .i64 o2],.slice A1 n1 c1] #[.agg #[.int .i64 o0,.int .i64 o1,.int .i64 o2],.slice A1 n1 c1]:=((bK.empty.push (vr_ints [o0,o1,o2])).push (.slice zgN));have Cf:(#[.agg #[.int .i64 o0,.int .i64 o1,.int .i64 o2],.slice A1 n1 c1]:Array Value)++Array.replicate ((D9).ntmps-(#[.agg #[.int .i64 o0,.int .i64 o1,.int .i64 o2],.slice A1 n1 c1]:Array Value).size) aA=#[.agg #[.int .i64 o0,.int .i64 o1,.int .i64 o2],.slice A1 n1 c1,aA,aA,aA,aA,aA,aA,aA,aA,aA,aA,aA,aA,aA,aA,aA,aA,aA,aA,aA,aA,aA,aA,aA,aA,aA,aA,aA,aA,aA,aA,aA,aA,aA,aA,aA,aA,aA,aA,aA,aA,aA,aA,aA,aA,aA,aA,aA,aA,aA,aA,aA,aA,aA,aA,aA,aA,aA,aA,aA,aA,aA,aA,aA,aA,aA,aA,aA,aA,aA,aA,aA,aA,aA,aA,aA,aA,aA,aA,aA,aA,aA,aA,aA,aA,aA,aA,aA,aA,aA,aA,aA,aA,aA,aA,aA,aA,aA,aA,aA,aA,aA,aA]:=by
  have e:(D9).ntmps=104:=rfl;rw[e];apply Array.ext';simp only[Array.toList_append,Array.toList_replicate,List.size_toArray,List.length_cons,List.length_nil];rfl
 have zxk:(D9).body=some Z7:=rfl;rw[<-Cf] at hJ;have aY:=J.start (Post:=λv w'=>v=.bool true/\Below W.heap.size W w') lvF (f:=3) (fn:=D9) (c:=Z7) aP aP zdw zxk hX hT hG Bw hJ;obtain⟨M,last,o,w',t',e1,e2,e3,e4⟩:=aY;refine⟨M,last,o,w',t',e1,e2,e3,e4.mono λv hp=>zBZ ?_⟩;obtain⟨rfl,bel⟩:=hp;exact⟨_,_,_,[],_,[],Vo,trodAll_mk1 (shut_bool Tryz.underlying4 _),(zol (zxK zja aP (of_decide_eq_true aP) k0 bel zmt) (zol (zxK zja aP (of_decide_eq_true aP) k1 bel zIj) trodAll_mk0)),rfl,bel.frame _,λh=>by cases h⟩
theorem closed:joinedFacts Tryz.pinned.checked.prog 3 D9 Rows.fnExactRunOfficeSpec Rows.fnExactRunOfficeRow=true:=by
 unfold joinedFacts;exact(oP (oP (oP (oP (oP (oP (oP (oP (oP (oP (oP (oP (oP (oP (oP (oP (oP (oP (oP (oP (oP (oP (oP (oP (oP (oP (oP (oP (oP (oP (oP uK Facts.zja) Facts.mapsRowed) uK) uK) uK) Facts.stops) uK) Facts.stopKnobs) uK) uK) uK) uK) uK) uK) uK) uK) uK) uK) uK) uK) uK) Facts.plainKeys) uK) Facts.stopsHeard) Facts.mayEnter) Facts.lifted) Facts.make) uK) uK) uK) uK)
theorem over:Rows.fnExactRunOfficeRow.holds Tryz.pinned (ztv Rows.fnExactRunOfficeSpec):=
 OpenClaim.holds_of_wide_leaving 3 D9 rfl rfl rfl rfl rfl rfl rfl ⟨rfl,rfl,rfl,rfl,rfl⟩ rfl rfl rfl rfl rfl funcNo zdw closed
  (of_decide_eq_true aP) (by unfold Func.isWrapper;first|(rw[if_pos G7];kernel_rfl)|(rw[if_neg G7];exact⟨rfl,rfl⟩))
  (λos started H enc _=>lifted os started H enc)
theorem proved:Rows.FnExactRunOfficeCardSaid:=
 zHC .later Rows.fnExactRunOfficeCard.laidKinds Rows.fnExactRunOfficeCard.laidTests Rows.fnExactRunOfficeCard.stood.harness Rows.fnExactRunOfficeCard.stood.looks
  over aP fnExactRunOffice_row_tie rfl ⟨rfl,rfl⟩ Facts.mainIs rfl
  (λf fn hf xD=>by
   obtain rfl:f=3:=cE (funcNo.symm.trans hf)|>.symm;obtain rfl:fn=Tryz.f3:=(cE (zdw.symm.trans xD)).symm;exact⟨Facts.looks,λj t ht=>by
    have hm:t∈Tryz.f3.params.toList:=by simpa using Array.mem_of_getElem? ht
    have tF:(D9.params.toList.all λu=>!aK.wantsStandIn u)=true:=aP;exact(show aK.wantsStandIn t=false by simpa using List.all_eq_true.1 tF t hm)⟩)
  aP
#print axioms proved
end Go.Proofs.YtfcjiloojkjaeaaGreatDoor.fnExactRunOffice
