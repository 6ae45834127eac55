/-
  'FnExactTalkingCalls' answers true whatever the input, and its arguments read afterwards as before; the listed tables are tied to the program's text. No condition.
-/
import Derived.Test.YtfcjiloojkjaeaaGreatDoorTie
import Derived.Conc.LeavingOf
import Derived.Test.YtfcjiloojkjaeaaGreatDoorTalkCPq6
set_option linter.all false
set_option maxHeartbeats 16000000
set_option maxRecDepth 100000
open Go renaming trodAll_cons_mk→zrR,undef→aA
open Go.ChangeSpec renaming post_blind→zHt,witness_shaped→zDx
open Go.DataW renaming trod_int→Xl,trod_lt→zuH
open Go.DataW.Whole renaming of_heap→zDB
open Go.OpenSpec renaming ofChange→zw7
open Go.Proofs.Tryz renaming checked→vK,f4→E7,func4→zeE,prog→aK,underlying24→zni,underlying3→zbw
open Go.RowKit.Below renaming trod→zo6
open Go.Value renaming int→Pq
open Option.some renaming inj→cE
namespace Go
def uE{P:Prop}(h:P:=by as_aux_lemma=>kernel_rfl):P:=h
end Go
namespace Go.Proofs.YtfcjiloojkjaeaaGreatDoor.fnExactTalkingCalls
open Go.RowKit Go.ChangeShapes Go.WideShapes Go.ChangeAt Go.Joins Go.Deep Go.Conc Go.Mt Go.Tt
def funcNo:Tryz.pinned.checked.prog.funcNamed "loop.example/channelboard/laws.FnExactTalkingCalls" =some 4:=aQ
def laid0:aK.globals.size<(begin aK (λ_ _=>0) default).world.heap.size:=of_decide_eq_true aQ
theorem zyO {W:World}(h:W.ShapedOpen aK):aK.globals.size<=W.heap.size:=by
 obtain⟨_,h2⟩:=h;obtain⟨o,_,h3,_⟩:=h2 aK.globals.size (Nat.le_refl _) laid0;exact Nat.le_of_lt (Array.getElem?_eq_some_iff.1 h3).1
variable {S:FuncId->Prop}
theorem vr_ints {K R:Pr}(l:List Int):VR S K R (.agg (l.map (Pq .i64)).toArray) (.agg (l.map (Pq .i64)).toArray):=
 .agg rfl λi u v h1 h2=>by
  rw[h1] at h2;injection h2 with h2;subst h2;simp at h1;obtain⟨a,_,rfl⟩:=h1;exact .int _ _
theorem lifted (os:Os)(started:os.Started)(H:Type)(enc:TypeId×Value->H):
 ReturnsInLeavingWide {} vK os 4 .any (λw args=>(Rows.fnExactTalkingCallsSpec.pre enc aK E7 [] false w args/\laidMetH aK U6 w)/\sizedMet enc aK E7 (zw7 Rows.fnExactTalkingCallsSpec) false w args)
  (Rows.fnExactTalkingCallsSpec.post enc aK E7 false true false false):=by
 refine returnsInLeavingWide_of_good (C:=vK) own started
  (zDx (enc:=enc) (C:=vK) (os:=os) (X:=λw _=>laidMetH aK U6 w) false (World.doorLaid aK 400 os) #[.agg #[.int .i64 0,.int .i64 0,.int .i64 0],.slice none 0 0] 8 rfl (World.shaped_of_RefB aQ aQ) aQ aQ aQ (zHd os _)) ?_
 intro w tape i _ zpE _ bU zmb _;obtain⟨_,_,_,fn',X9,_,_,_,_,zxP⟩:=bU;obtain rfl:fn'=Tryz.f4:=cE (X9.symm.trans zeE);obtain⟨⟨⟨ds,gs,before,hw,hc⟩,hL⟩,hz⟩:=zmb;have hG:=zyO zpE;have Oq:=zDB (w':=w.forCall tape i) Mk hw;have zbD:laidMetH aK U6 (w.forCall tape i):=hL.of_heap Mk;clear hw hz zpE hc hL;obtain⟨ib,args,iv⟩:=i;generalize ze9:w.forCall tape ⟨ib,args,iv⟩=W at*;have zep:∀(j:Nat) t v,E7.params[j]? =some t->args[j]? =some v->Value.okWide aK W .any w.heap.size t v:=zxP;have hW:DataW.Whole enc aK E7.params.toList Rows.fnExactTalkingCallsSpec.vars false W args.toList ds gs before:=Oq;clear zxP Oq;have Y5:=hW;obtain⟨p,q,Mb,hV,rfl,mY,lH⟩:=hW;have hA:DataW.TrodAll enc aK W 0 (λ_=>true) true E7.params.toList args.toList ds p:=Mb;rw[Tryz.params4] at hA zep;obtain⟨v0,zMK,d0,zJ4,p0,q0,sH,rfl,rfl,h0,r0⟩:=trodAll_cons hA;obtain⟨v1,zLQ,d1,zKZ,p1,q1,rfl,rfl,rfl,h1,r1⟩:=trodAll_cons r0;obtain⟨rfl,rfl,rfl⟩:=trodAll_nil r1;obtain rfl:args=#[v0,v1]:=by cases args;simp_all
 obtain⟨rfl,rfl⟩:=trodVars_none hV;have k0:=h0;have znl:∀x∈p0,x.block<W.heap.size:=by obtain⟨m,hm⟩:=k0;exact zuH m _ _ _ hm
 obtain⟨b0,b1,b2,y0,y1,y2,n0,rfl,rfl,rfl,Tr,Qb,zFQ⟩:=open_agg3 Tryz.underlying23 aQ aQ (zep 0 23 v0 rfl rfl) h0;obtain⟨o0,e0,rfl,zKU⟩:=Xl zbw Tr;obtain⟨o1,e1,rfl,zMc⟩:=Xl zbw Qb;obtain⟨o2,e2,rfl,zNg⟩:=Xl zbw zFQ;simp at e0 e1 e2;subst e0 e1 e2;have k1:=h1;have zFs:∀x∈p1,x.block<W.heap.size:=by obtain⟨m,hm⟩:=k1;exact zuH m _ _ _ hm
 obtain⟨A1,n1,c1,rfl⟩:=okWide_slice zni (zep 1 24 v1 rfl rfl);have zGe:=zFG zni (zep 1 24 _ rfl rfl);obtain⟨zLY,m1,zEv⟩:=zIR zni aQ Tryz.underlying56 rfl rfl rfl Tryz.underlying9 zbw zbw aQ aQ aQ h1;clear Mb;have hX:=zIH (A1:=A1) (A2:=none) (A3:=none) zbD zGe (λa e=>by cases e) (λa e=>by cases e);have hT:∀g,Ap aK g=true->(K5 A1 none none) g=true:=λg e=>by simp[K5,e]
 have zsg:∀a,A1=some a->(K5 A1 none none) a.block=true:=λa e=>by simp[K5,Vf,e]
 have zgq:wK (R0 (K5 A1 none none)) A1 A1:=zyU zsg;have hJ:=zJJ (o:=⟨o0,o1,o2⟩) (w:=Cs (SF gE) (K5 A1 none none) W) (St:=St0 (K5 A1 none none)) (W0:=W) (Post:=λv w'=>v=.bool true/\Below W.heap.size W w') (zG8 hX zsg m1 zJN) zEv (zyT hX hT (of_laid zbD)) (zEj hX hT) (λR W' hk=>⟨rfl,hk.below⟩);have Bx:bK (SF gE) P0 (R0 (K5 A1 none none)) #[.agg #[.int .i64 o0,.int .i64 o1,.int .i64 o2],.slice A1 n1 c1] #[.agg #[.int .i64 o0,.int .i64 o1,.int .i64 o2],.slice A1 n1 c1]:=((bK.empty.push (vr_ints [o0,o1,o2])).push (.slice zgq));have Cn:(#[.agg #[.int .i64 o0,.int .i64 o1,.int .i64 o2],.slice A1 n1 c1]:Array Value)++Array.replicate ((E7).ntmps-(#[.agg #[.int .i64 o0,.int .i64 o1,.int .i64 o2],.slice A1 n1 c1]:Array Value).size) aA=#[.agg #[.int .i64 o0,.int .i64 o1,.int .i64 o2],.slice A1 n1 c1,aA,aA,aA,aA,aA,aA,aA,aA,aA,aA,aA,aA,aA,aA,aA,aA,aA,aA,aA,aA,aA,aA,aA,aA,aA,aA,aA,aA,aA,aA,aA,aA,aA,aA,aA,aA,aA,aA,aA,aA,aA,aA,aA,aA,aA,aA,aA,aA,aA,aA,aA,aA,aA,aA,aA,aA,aA,aA,aA,aA,aA,aA,aA,aA,aA,aA,aA,aA,aA,aA,aA,aA,aA,aA,aA]:=by
  have e:(E7).ntmps=77:=rfl;rw[e];apply Array.ext';simp only[Array.toList_append,Array.toList_replicate,List.size_toArray,List.length_cons,List.length_nil];rfl
 have zu8:(E7).body=some zcG:=rfl;rw[<-Cn] at hJ;have aY:=J.start (Post:=λv w'=>v=.bool true/\Below W.heap.size W w') lvF (f:=4) (fn:=E7) (c:=zcG) aQ aQ zeE zu8 hX hT hG Bx hJ;obtain⟨M,last,o,w',t',e1,e2,e3,e4⟩:=aY;refine⟨M,last,o,w',t',e1,e2,e3,e4.mono λv hp=>zHt ?_⟩;obtain⟨rfl,bel⟩:=hp;exact⟨_,_,_,[],_,[],Y5,trodAll_mk1 (shut_bool Tryz.underlying4 _),(zrR (zo6 zh0 aQ (of_decide_eq_true aQ) k0 bel znl) (zrR (zo6 zh0 aQ (of_decide_eq_true aQ) k1 bel zFs) trodAll_mk0)),rfl,bel.frame _,λh=>by cases h⟩
theorem closed:joinedFacts Tryz.pinned.checked.prog 4 E7 Rows.fnExactTalkingCallsSpec Rows.fnExactTalkingCallsRow=true:=by
 unfold joinedFacts;exact(oR (oR (oR (oR (oR (oR (oR (oR (oR (oR (oR (oR (oR (oR (oR (oR (oR (oR (oR (oR (oR (oR (oR (oR (oR (oR (oR (oR (oR (oR (oR uE Facts.zh0) Facts.mapsRowed) uE) uE) uE) Facts.stops) uE) Facts.stopKnobs) uE) uE) uE) uE) uE) uE) uE) uE) uE) uE) uE) uE) uE) Facts.plainKeys) uE) Facts.stopsHeard) Facts.mayEnter) Facts.lifted) Facts.make) uE) uE) uE) uE)
theorem over:Rows.fnExactTalkingCallsRow.holds Tryz.pinned (zw7 Rows.fnExactTalkingCallsSpec):=
 OpenClaim.holds_of_wide_leaving 4 E7 rfl rfl rfl rfl rfl rfl rfl ⟨rfl,rfl,rfl,rfl,rfl⟩ rfl rfl rfl rfl rfl funcNo zeE closed
  (of_decide_eq_true aQ) (by unfold Func.isWrapper;first|(rw[if_pos Gv];kernel_rfl)|(rw[if_neg Gv];exact⟨rfl,rfl⟩))
  (λos started H enc _=>lifted os started H enc)
theorem proved:Rows.FnExactTalkingCallsCardSaid:=
 zIQ .later Rows.fnExactTalkingCallsCard.laidKinds Rows.fnExactTalkingCallsCard.laidTests Rows.fnExactTalkingCallsCard.stood.harness Rows.fnExactTalkingCallsCard.stood.looks
  over aQ fnExactTalkingCalls_row_tie rfl ⟨rfl,rfl⟩ Facts.mainIs rfl
  (λf fn hf xB=>by
   obtain rfl:f=4:=cE (funcNo.symm.trans hf)|>.symm;obtain rfl:fn=Tryz.f4:=(cE (zeE.symm.trans xB)).symm;exact⟨Facts.looks,λj t ht=>by
    have hm:t∈Tryz.f4.params.toList:=by simpa using Array.mem_of_getElem? ht
    have tF:(E7.params.toList.all λu=>!aK.wantsStandIn u)=true:=aQ;exact(show aK.wantsStandIn t=false by simpa using List.all_eq_true.1 tF t hm)⟩)
  aQ
#print axioms proved
end Go.Proofs.YtfcjiloojkjaeaaGreatDoor.fnExactTalkingCalls
