/-
  'FnAnswered' answers true whatever the input, and its arguments read afterwards as before; the listed tables are tied to the program's text. No condition.
-/
import Derived.Test.YtfcjiloojkjaeaaGreatDoorTie
import Derived.Conc.LeavingOf
import Derived.Test.YtfcjiloojkjaeaaGreatDoorAnsPq6
set_option linter.all false
set_option maxHeartbeats 16000000
set_option maxRecDepth 100000
open Go renaming undef→aA
open Go.ChangeSpec renaming post_blind→zDM,witness_shaped→zAs
open Go.DataW.Whole renaming of_heap→zFK
open Go.OpenSpec renaming ofChange→zoy
open Go.Proofs.Tryz renaming checked→vR,f8→Gq,func8→zeg,prog→aK,underlying42→ziz
open Go.Value renaming int→M9
open Option.some renaming inj→cS
namespace Go
theorem vM{P:Prop}(h:P:=by as_aux_lemma=>kernel_rfl):P:=h
end Go
namespace Go.Proofs.YtfcjiloojkjaeaaGreatDoor.fnAnswered
open Go.RowKit Go.ChangeShapes Go.WideShapes Go.ChangeAt Go.Joins Go.Deep Go.Conc Go.Mt Go.Tt
def funcNo:Tryz.pinned.checked.prog.funcNamed "loop.example/channelboard/laws.FnAnswered" =some 8:=aU
def laid0:aK.globals.size<(begin aK (λ_ _=>0) default).world.heap.size:=of_decide_eq_true aU
theorem zF0 {W:World}(h:W.ShapedOpen aK):aK.globals.size<=W.heap.size:=by
 obtain⟨_,h2⟩:=h;obtain⟨o,_,h3,_⟩:=h2 aK.globals.size (Nat.le_refl _) laid0;exact Nat.le_of_lt (Array.getElem?_eq_some_iff.1 h3).1
variable {S:FuncId->Prop}
theorem vr_ints {K R:Pr}(l:List Int):VR S K R (.agg (l.map (M9 .i64)).toArray) (.agg (l.map (M9 .i64)).toArray):=
 .agg rfl λi u v h1 h2=>by
  rw[h1] at h2;injection h2 with h2;subst h2;simp at h1;obtain⟨a,_,rfl⟩:=h1;exact .int _ _
theorem lifted (os:Os)(started:os.Started)(H:Type)(enc:TypeId×Value->H):
 ReturnsInLeavingWide {} vR os 8 .any (λw args=>(Rows.fnAnsweredSpec.pre enc aK Gq [] false w args/\laidMetH aK U3 w)/\sizedMet enc aK Gq (zoy Rows.fnAnsweredSpec) false w args)
  (Rows.fnAnsweredSpec.post enc aK Gq false true false false):=by
 refine returnsInLeavingWide_of_good (C:=vR) own started
  (zAs (enc:=enc) (C:=vR) (os:=os) (X:=λw _=>laidMetH aK U3 w) false (World.doorLaid aK 400 os) #[.slice none 0 0] 8 rfl (World.shaped_of_RefB aU aU) aU aU aU (door_met os _)) ?_
 intro w tape i _ zrm _ bV zmx _;obtain⟨_,_,_,fn',ziY,_,_,_,_,zyS⟩:=bV;obtain rfl:fn'=Tryz.f8:=cS (ziY.symm.trans zeg);obtain⟨⟨⟨ds,gs,before,hw,hc⟩,hL⟩,hz⟩:=zmx;have hG:=zF0 zrm;have H7:=zFK (w':=w.forCall tape i) K9 hw;have zaB:laidMetH aK U3 (w.forCall tape i):=hL.of_heap K9;clear hw hz zrm hc hL;obtain⟨ib,args,iv⟩:=i;generalize zfw:w.forCall tape ⟨ib,args,iv⟩=W at*;have znv:∀(j:Nat) t v,Gq.params[j]? =some t->args[j]? =some v->Value.okWide aK W .any w.heap.size t v:=zyS;have hW:DataW.Whole enc aK Gq.params.toList Rows.fnAnsweredSpec.vars false W args.toList ds gs before:=H7;clear zyS H7;have Zj:=hW;obtain⟨p,q,Mn,hV,rfl,oC,lD⟩:=hW;have hA:DataW.TrodAll enc aK W 0 (λ_=>true) true Gq.params.toList args.toList ds p:=Mn;rw[Tryz.params8] at hA znv;obtain⟨v0,zL2,d0,zKi,p0,q0,xF,rfl,rfl,h0,r0⟩:=trodAll_cons hA;obtain⟨rfl,rfl,rfl⟩:=trodAll_nil r0;obtain rfl:args=#[v0]:=by cases args;simp_all
 obtain⟨rfl,rfl⟩:=trodVars_none hV;have k0:=h0;have zvQ:∀x∈p0,x.block<W.heap.size:=by obtain⟨m,hm⟩:=k0;exact DataW.trod_lt m _ _ _ hm
 obtain⟨A0,n0,c0,rfl⟩:=okWide_slice ziz (znv 0 42 v0 rfl rfl);have zz7:=zG8 ziz (znv 0 42 _ rfl rfl);have m0:=zFA ziz Tryz.underlying5 aU h0;clear Mn;have hX:=zGg (A1:=A0) (A2:=none) (A3:=none) zaB zz7 (λa e=>by cases e) (λa e=>by cases e);have hT:∀g,Co aK g=true->(L1 A0 none none) g=true:=λg e=>by simp[L1,e]
 have zul:∀a,A0=some a->(L1 A0 none none) a.block=true:=λa e=>by simp[L1,zab,e]
 have zkQ:yB (R0 (L1 A0 none none)) A0 A0:=zHE zul;have zGL:=zBm (S:=SF fX) hX zul m0;have hJ:=zBa (w:=Ed (SF fX) (L1 A0 none none) W) (St:=St0 (L1 A0 none none)) (W0:=W) (Post:=λv w'=>v=.bool true/\Below W.heap.size W w') zGL (zGl hX hT (of_laid zaB)) (zzR hX hT) (λR W' hk=>⟨rfl,hk.below⟩);have Hu:bQ (SF fX) P0 (R0 (L1 A0 none none)) #[.slice A0 n0 c0] #[.slice A0 n0 c0]:=(bQ.empty.push (.slice zkQ));have Er:(#[.slice A0 n0 c0]:Array Value)++Array.replicate ((Gq).ntmps-(#[.slice A0 n0 c0]:Array Value).size) aA=#[.slice A0 n0 c0,aA,aA,aA,aA,aA,aA,aA,aA,aA,aA,aA,aA,aA,aA,aA,aA,aA,aA,aA,aA,aA,aA,aA,aA,aA,aA,aA,aA,aA,aA,aA,aA,aA,aA,aA,aA,aA,aA,aA,aA,aA,aA,aA,aA,aA,aA,aA,aA,aA,aA,aA,aA,aA,aA,aA,aA,aA,aA,aA,aA,aA,aA,aA,aA,aA,aA,aA,aA,aA,aA,aA,aA,aA,aA,aA,aA,aA,aA,aA,aA,aA,aA,aA,aA,aA,aA,aA,aA,aA,aA,aA,aA,aA,aA,aA,aA,aA,aA,aA,aA,aA,aA,aA,aA,aA,aA,aA,aA,aA,aA,aA,aA,aA,aA,aA,aA,aA,aA,aA,aA,aA,aA,aA,aA,aA,aA,aA,aA,aA,aA,aA,aA,aA,aA,aA,aA,aA,aA,aA,aA,aA,aA,aA,aA,aA,aA,aA,aA,aA,aA,aA,aA,aA,aA,aA,aA,aA,aA,aA,aA,aA,aA,aA,aA,aA,aA,aA,aA,aA,aA,aA,aA,aA,aA,aA,aA,aA,aA,aA,aA,aA,aA,aA,aA,aA,aA,aA,aA,aA,aA,aA,aA,aA,aA,aA,aA,aA,aA,aA,aA,aA,aA,aA,aA,aA,aA]:=by
  have e:(Gq).ntmps=207:=rfl;rw[e];apply Array.ext';simp only[Array.toList_append,Array.toList_replicate,List.size_toArray,List.length_cons,List.length_nil];rfl
 have zwE:(Gq).body=some Xo:=rfl;rw[<-Er] at hJ;have aX:=J.start (Post:=λv w'=>v=.bool true/\Below W.heap.size W w') lvF (f:=8) (fn:=Gq) (c:=Xo) aU aU zeg zwE hX hT hG Hu hJ;obtain⟨M,last,o,w',t',e1,e2,e3,e4⟩:=aX;refine⟨M,last,o,w',t',e1,e2,e3,e4.mono λv hp=>zDM ?_⟩;obtain⟨rfl,bel⟩:=hp;exact⟨_,_,_,[],_,[],Zj,trodAll_mk1 (shut_bool Tryz.underlying4 _),(trodAll_cons_mk (Below.trod zsn aU (of_decide_eq_true aU) k0 bel zvQ) trodAll_mk0),rfl,bel.frame _,λh=>by cases h⟩
theorem closed:joinedFacts Tryz.pinned.checked.prog 8 Gq Rows.fnAnsweredSpec Rows.fnAnsweredRow=true:=by
 unfold joinedFacts;exact(o9 (o9 (o9 (o9 (o9 (o9 (o9 (o9 (o9 (o9 (o9 (o9 (o9 (o9 (o9 (o9 (o9 (o9 (o9 (o9 (o9 (o9 (o9 (o9 (o9 (o9 (o9 (o9 (o9 (o9 (o9 vM Facts.zsn) Facts.mapsRowed) vM) vM) vM) Facts.stops) vM) Facts.stopKnobs) vM) vM) vM) vM) vM) vM) vM) vM) vM) vM) vM) vM) vM) Facts.plainKeys) vM) Facts.stopsHeard) Facts.mayEnter) Facts.lifted) Facts.make) vM) vM) vM) vM)
theorem over:Rows.fnAnsweredRow.holds Tryz.pinned (zoy Rows.fnAnsweredSpec):=
 OpenClaim.holds_of_wide_leaving 8 Gq rfl rfl rfl rfl rfl rfl rfl ⟨rfl,rfl,rfl,rfl,rfl⟩ rfl rfl rfl rfl rfl funcNo zeg closed
  (of_decide_eq_true aU) (by unfold Func.isWrapper;first|(rw[if_pos nN];kernel_rfl)|(rw[if_neg nN];exact⟨rfl,rfl⟩))
  (λos started H enc _=>lifted os started H enc)
theorem proved:Rows.FnAnsweredCardSaid:=
 zHx .later Rows.fnAnsweredCard.laidKinds Rows.fnAnsweredCard.laidTests Rows.fnAnsweredCard.stood.harness Rows.fnAnsweredCard.stood.looks
  over aU fnAnswered_row_tie rfl ⟨rfl,rfl⟩ Facts.mainIs rfl
  (λf fn hf Jd=>by
   obtain rfl:f=8:=cS (funcNo.symm.trans hf)|>.symm;obtain rfl:fn=Tryz.f8:=(cS (zeg.symm.trans Jd)).symm;exact⟨Facts.looks,λj t ht=>by
    have hm:t∈Tryz.f8.params.toList:=by simpa using Array.mem_of_getElem? ht
    have sZ:(Gq.params.toList.all λu=>!aK.wantsStandIn u)=true:=aU;exact(show aK.wantsStandIn t=false by simpa using List.all_eq_true.1 sZ t hm)⟩)
  aU
#print axioms proved
end Go.Proofs.YtfcjiloojkjaeaaGreatDoor.fnAnswered
