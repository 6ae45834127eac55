/-
  'FnExactCallsToReturn' answers true whatever the input, and its arguments read afterwards as before; the listed tables are tied to the program's text. No condition.
-/
import Derived.Test.YtfcjiloojkjaeaaGreatDoorTie
import Derived.Conc.LeavingOf
import Derived.Test.YtfcjiloojkjaeaaGreatDoorReturnPq6
set_option linter.all false
set_option maxHeartbeats 16000000
set_option maxRecDepth 100000
open Go renaming trodAll_cons_mk→zpU,undef→aA
open Go.ChangeSpec renaming post_blind→zGo,witness_shaped→zIM
open Go.DataW renaming trod_int→Vr,trod_lt→zpr
open Go.DataW.Whole renaming of_heap→zIR
open Go.OpenSpec renaming ofChange→zuD
open Go.Proofs.Tryz renaming checked→vL,f5→Ek,func5→zgu,prog→aK,underlying24→zjf,underlying3→zbC
open Go.RowKit.Below renaming trod→zud
open Go.Value renaming int→Qc
open Option.some renaming inj→cE
namespace Go
def uM{P:Prop}(h:P:=by as_aux_lemma=>kernel_rfl):P:=h
end Go
namespace Go.Proofs.YtfcjiloojkjaeaaGreatDoor.fnExactCallsToReturn
open Go.RowKit Go.ChangeShapes Go.WideShapes Go.ChangeAt Go.Joins Go.Deep Go.Conc Go.Mt Go.Tt
def funcNo:Tryz.pinned.checked.prog.funcNamed "loop.example/channelboard/laws.FnExactCallsToReturn" =some 5:=aQ
def laid0:aK.globals.size<(begin aK (λ_ _=>0) default).world.heap.size:=of_decide_eq_true aQ
theorem zHd {W:World}(h:W.ShapedOpen aK):aK.globals.size<=W.heap.size:=by
 obtain⟨_,h2⟩:=h;obtain⟨o,_,h3,_⟩:=h2 aK.globals.size (Nat.le_refl _) laid0;exact Nat.le_of_lt (Array.getElem?_eq_some_iff.1 h3).1
variable {S:FuncId->Prop}
theorem vr_ints {K R:Pr}(l:List Int):VR S K R (.agg (l.map (Qc .i64)).toArray) (.agg (l.map (Qc .i64)).toArray):=
 .agg rfl λi u v h1 h2=>by
  rw[h1] at h2;injection h2 with h2;subst h2;simp at h1;obtain⟨a,_,rfl⟩:=h1;exact .int _ _
theorem lifted (os:Os)(started:os.Started)(H:Type)(enc:TypeId×Value->H):
 ReturnsInLeavingWide {} vL os 5 .any (λw args=>(Rows.fnExactCallsToReturnSpec.pre enc aK Ek [] false w args/\laidMetH aK Rm w)/\sizedMet enc aK Ek (zuD Rows.fnExactCallsToReturnSpec) false w args)
  (Rows.fnExactCallsToReturnSpec.post enc aK Ek false true false false):=by
 refine returnsInLeavingWide_of_good (C:=vL) own started
  (zIM (enc:=enc) (C:=vL) (os:=os) (X:=λw _=>laidMetH aK Rm w) false (World.doorLaid aK 400 os) #[.agg #[.int .i64 0,.int .i64 0,.int .i64 0],.slice none 0 0] 8 rfl (World.shaped_of_RefB aQ aQ) aQ aQ aQ (zFs os _)) ?_
 intro w tape i _ ztZ _ bV zkj _;obtain⟨_,_,_,fn',Wb,_,_,_,_,zua⟩:=bV;obtain rfl:fn'=Tryz.f5:=cE (Wb.symm.trans zgu);obtain⟨⟨⟨ds,gs,before,hw,hc⟩,hL⟩,hz⟩:=zkj;have hG:=zHd ztZ;have Qj:=zIR (w':=w.forCall tape i) Ks hw;have zbH:laidMetH aK Rm (w.forCall tape i):=hL.of_heap Ks;clear hw hz ztZ hc hL;obtain⟨ib,args,iv⟩:=i;generalize zeG:w.forCall tape ⟨ib,args,iv⟩=W at*;have zee:∀(j:Nat) t v,Ek.params[j]? =some t->args[j]? =some v->Value.okWide aK W .any w.heap.size t v:=zua;have hW:DataW.Whole enc aK Ek.params.toList Rows.fnExactCallsToReturnSpec.vars false W args.toList ds gs before:=Qj;clear zua Qj;have Xu:=hW;obtain⟨p,q,Lb,hV,rfl,mR,lH⟩:=hW;have hA:DataW.TrodAll enc aK W 0 (λ_=>true) true Ek.params.toList args.toList ds p:=Lb;rw[Tryz.params5] at hA zee;obtain⟨v0,zMV,d0,zKZ,p0,q0,tD,rfl,rfl,h0,r0⟩:=trodAll_cons hA;obtain⟨v1,zKb,d1,zKm,p1,q1,rfl,rfl,rfl,h1,r1⟩:=trodAll_cons r0;obtain⟨rfl,rfl,rfl⟩:=trodAll_nil r1;obtain rfl:args=#[v0,v1]:=by cases args;simp_all
 obtain⟨rfl,rfl⟩:=trodVars_none hV;have k0:=h0;have zjZ:∀x∈p0,x.block<W.heap.size:=by obtain⟨m,hm⟩:=k0;exact zpr m _ _ _ hm
 obtain⟨b0,b1,b2,y0,y1,y2,n0,rfl,rfl,rfl,Sf,Ot,zzq⟩:=open_agg3 Tryz.underlying23 aQ aQ (zee 0 23 v0 rfl rfl) h0;obtain⟨o0,e0,rfl,zMX⟩:=Vr zbC Sf;obtain⟨o1,e1,rfl,zK8⟩:=Vr zbC Ot;obtain⟨o2,e2,rfl,zJ0⟩:=Vr zbC zzq;simp at e0 e1 e2;subst e0 e1 e2;have k1:=h1;have zCG:∀x∈p1,x.block<W.heap.size:=by obtain⟨m,hm⟩:=k1;exact zpr m _ _ _ hm
 obtain⟨A1,n1,c1,rfl⟩:=okWide_slice zjf (zee 1 24 v1 rfl rfl);have zE2:=zDR zjf (zee 1 24 _ rfl rfl);obtain⟨zMf,m1,zI8⟩:=zB8 zjf aQ Tryz.underlying56 rfl rfl rfl Tryz.underlying9 zbC zbC aQ aQ aQ h1;clear Lb;have hX:=zAj (A1:=A1) (A2:=none) (A3:=none) zbH zE2 (λa e=>by cases e) (λa e=>by cases e);have hT:∀g,Bc aK g=true->(Ke A1 none none) g=true:=λg e=>by simp[Ke,e]
 have zrv:∀a,A1=some a->(Ke A1 none none) a.block=true:=λa e=>by simp[Ke,Vs,e]
 have zgS:wP (R0 (Ke A1 none none)) A1 A1:=zzJ zrv;have hJ:=zJj (o:=⟨o0,o1,o2⟩) (w:=Bj (SF gG) (Ke A1 none none) W) (St:=St0 (Ke A1 none none)) (W0:=W) (Post:=λv w'=>v=.bool true/\Below W.heap.size W w') (zHQ hX zrv m1 zAy) zI8 (zAU hX hT (of_laid zbH)) (zDO hX hT) (λR W' hk=>⟨rfl,hk.below⟩);have Cj:bK (SF gG) P0 (R0 (Ke A1 none none)) #[.agg #[.int .i64 o0,.int .i64 o1,.int .i64 o2],.slice A1 n1 c1] #[.agg #[.int .i64 o0,.int .i64 o1,.int .i64 o2],.slice A1 n1 c1]:=((bK.empty.push (vr_ints [o0,o1,o2])).push (.slice zgS));have Ch:(#[.agg #[.int .i64 o0,.int .i64 o1,.int .i64 o2],.slice A1 n1 c1]:Array Value)++Array.replicate ((Ek).ntmps-(#[.agg #[.int .i64 o0,.int .i64 o1,.int .i64 o2],.slice A1 n1 c1]:Array Value).size) aA=#[.agg #[.int .i64 o0,.int .i64 o1,.int .i64 o2],.slice A1 n1 c1,aA,aA,aA,aA,aA,aA,aA,aA,aA,aA,aA,aA,aA,aA,aA,aA,aA,aA,aA,aA,aA,aA,aA,aA,aA,aA,aA,aA,aA,aA,aA,aA,aA,aA,aA,aA,aA,aA,aA,aA,aA,aA,aA,aA,aA,aA,aA,aA,aA,aA,aA,aA,aA,aA,aA,aA,aA,aA,aA,aA,aA,aA,aA,aA,aA,aA,aA,aA,aA,aA,aA,aA,aA,aA,aA]:=by
  have e:(Ek).ntmps=77:=rfl;rw[e];apply Array.ext';simp only[Array.toList_append,Array.toList_replicate,List.size_toArray,List.length_cons,List.length_nil];rfl
 have ztc:(Ek).body=some zc1:=rfl;rw[<-Ch] at hJ;have aY:=J.start (Post:=λv w'=>v=.bool true/\Below W.heap.size W w') lvF (f:=5) (fn:=Ek) (c:=zc1) aQ aQ zgu ztc hX hT hG Cj hJ;obtain⟨M,last,o,w',t',e1,e2,e3,e4⟩:=aY;refine⟨M,last,o,w',t',e1,e2,e3,e4.mono λv hp=>zGo ?_⟩;obtain⟨rfl,bel⟩:=hp;exact⟨_,_,_,[],_,[],Xu,trodAll_mk1 (shut_bool Tryz.underlying4 _),(zpU (zud zjg aQ (of_decide_eq_true aQ) k0 bel zjZ) (zpU (zud zjg aQ (of_decide_eq_true aQ) k1 bel zCG) trodAll_mk0)),rfl,bel.frame _,λh=>by cases h⟩
theorem closed:joinedFacts Tryz.pinned.checked.prog 5 Ek Rows.fnExactCallsToReturnSpec Rows.fnExactCallsToReturnRow=true:=by
 unfold joinedFacts;exact(pB (pB (pB (pB (pB (pB (pB (pB (pB (pB (pB (pB (pB (pB (pB (pB (pB (pB (pB (pB (pB (pB (pB (pB (pB (pB (pB (pB (pB (pB (pB uM Facts.zjg) Facts.mapsRowed) uM) uM) uM) Facts.stops) uM) Facts.stopKnobs) uM) uM) uM) uM) uM) uM) uM) uM) uM) uM) uM) uM) uM) Facts.plainKeys) uM) Facts.stopsHeard) Facts.mayEnter) Facts.lifted) Facts.make) uM) uM) uM) uM)
theorem over:Rows.fnExactCallsToReturnRow.holds Tryz.pinned (zuD Rows.fnExactCallsToReturnSpec):=
 OpenClaim.holds_of_wide_leaving 5 Ek rfl rfl rfl rfl rfl rfl rfl ⟨rfl,rfl,rfl,rfl,rfl⟩ rfl rfl rfl rfl rfl funcNo zgu closed
  (of_decide_eq_true aQ) (by unfold Func.isWrapper;first|(rw[if_pos Hm];kernel_rfl)|(rw[if_neg Hm];exact⟨rfl,rfl⟩))
  (λos started H enc _=>lifted os started H enc)
theorem proved:Rows.FnExactCallsToReturnCardSaid:=
 zAY .later Rows.fnExactCallsToReturnCard.laidKinds Rows.fnExactCallsToReturnCard.laidTests Rows.fnExactCallsToReturnCard.stood.harness Rows.fnExactCallsToReturnCard.stood.looks
  over aQ fnExactCallsToReturn_row_tie rfl ⟨rfl,rfl⟩ Facts.mainIs rfl
  (λf fn hf wM=>by
   obtain rfl:f=5:=cE (funcNo.symm.trans hf)|>.symm;obtain rfl:fn=Tryz.f5:=(cE (zgu.symm.trans wM)).symm;exact⟨Facts.looks,λj t ht=>by
    have hm:t∈Tryz.f5.params.toList:=by simpa using Array.mem_of_getElem? ht
    have sX:(Ek.params.toList.all λu=>!aK.wantsStandIn u)=true:=aQ;exact(show aK.wantsStandIn t=false by simpa using List.all_eq_true.1 sX t hm)⟩)
  aQ
#print axioms proved
end Go.Proofs.YtfcjiloojkjaeaaGreatDoor.fnExactCallsToReturn
