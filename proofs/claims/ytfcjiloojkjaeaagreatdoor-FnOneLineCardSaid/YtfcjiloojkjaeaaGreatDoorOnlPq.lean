/-
  'FnOneLine' answers true whatever the input, and its arguments read afterwards as before; the listed tables are tied to the program's text. No condition.
-/
import Derived.Test.YtfcjiloojkjaeaaGreatDoorTie
import Derived.Conc.LeavingOf
import Derived.Test.YtfcjiloojkjaeaaGreatDoorOnlPq6
set_option linter.all false
set_option maxHeartbeats 16000000
set_option maxRecDepth 100000
open Go renaming undef→aA
open Go.ChangeSpec renaming post_blind→zE8,witness_shaped→zHi
open Go.DataW.Whole renaming of_heap→zEr
open Go.OpenSpec renaming ofChange→zpG
open Go.Proofs.Tryz renaming checked→vN,f6→Gm,func6→zd0,prog→aK,underlying42→zkO
open Go.Value renaming int→Lo
open Option.some renaming inj→cJ
namespace Go
theorem uK{P:Prop}(h:P:=by as_aux_lemma=>kernel_rfl):P:=h
end Go
namespace Go.Proofs.YtfcjiloojkjaeaaGreatDoor.fnOneLine
open Go.RowKit Go.ChangeShapes Go.WideShapes Go.ChangeAt Go.Joins Go.Deep Go.Conc Go.Mt Go.Tt
def funcNo:Tryz.pinned.checked.prog.funcNamed "loop.example/channelboard/laws.FnOneLine" =some 6:=aT
def laid0:aK.globals.size<(begin aK (λ_ _=>0) default).world.heap.size:=of_decide_eq_true aT
theorem zEC {W:World}(h:W.ShapedOpen aK):aK.globals.size<=W.heap.size:=by
 obtain⟨_,h2⟩:=h;obtain⟨o,_,h3,_⟩:=h2 aK.globals.size (Nat.le_refl _) laid0;exact Nat.le_of_lt (Array.getElem?_eq_some_iff.1 h3).1
variable {S:FuncId->Prop}
theorem vr_ints {K R:Pr}(l:List Int):VR S K R (.agg (l.map (Lo .i64)).toArray) (.agg (l.map (Lo .i64)).toArray):=
 .agg rfl λi u v h1 h2=>by
  rw[h1] at h2;injection h2 with h2;subst h2;simp at h1;obtain⟨a,_,rfl⟩:=h1;exact .int _ _
theorem lifted (os:Os)(started:os.Started)(H:Type)(enc:TypeId×Value->H):
 ReturnsInLeavingWide {} vN os 6 .any (λw args=>(Rows.fnOneLineSpec.pre enc aK Gm [] false w args/\laidMetH aK Ry w)/\sizedMet enc aK Gm (zpG Rows.fnOneLineSpec) false w args)
  (Rows.fnOneLineSpec.post enc aK Gm false true false false):=by
 refine returnsInLeavingWide_of_good (C:=vN) own started
  (zHi (enc:=enc) (C:=vN) (os:=os) (X:=λw _=>laidMetH aK Ry w) false (World.doorLaid aK 400 os) #[.slice none 0 0] 8 rfl (World.shaped_of_RefB aT aT) aT aT aT (door_met os _)) ?_
 intro w tape i _ zsH _ bU zmi _;obtain⟨_,_,_,fn',zlg,_,_,_,_,zwk⟩:=bU;obtain rfl:fn'=Tryz.f6:=cJ (zlg.symm.trans zd0);obtain⟨⟨⟨ds,gs,before,hw,hc⟩,hL⟩,hz⟩:=zmi;have hG:=zEC zsH;have Hs:=zEr (w':=w.forCall tape i) Mb hw;have zaj:laidMetH aK Ry (w.forCall tape i):=hL.of_heap Mb;clear hw hz zsH hc hL;obtain⟨ib,args,iv⟩:=i;generalize zeU:w.forCall tape ⟨ib,args,iv⟩=W at*;have zno:∀(j:Nat) t v,Gm.params[j]? =some t->args[j]? =some v->Value.okWide aK W .any w.heap.size t v:=zwk;have hW:DataW.Whole enc aK Gm.params.toList Rows.fnOneLineSpec.vars false W args.toList ds gs before:=Hs;clear zwk Hs;have Wx:=hW;obtain⟨p,q,Lw,hV,rfl,nQ,kU⟩:=hW;have hA:DataW.TrodAll enc aK W 0 (λ_=>true) true Gm.params.toList args.toList ds p:=Lw;rw[Tryz.params6] at hA zno;obtain⟨v0,zK1,d0,zJK,p0,q0,wF,rfl,rfl,h0,r0⟩:=trodAll_cons hA;obtain⟨rfl,rfl,rfl⟩:=trodAll_nil r0;obtain rfl:args=#[v0]:=by cases args;simp_all
 obtain⟨rfl,rfl⟩:=trodVars_none hV;have k0:=h0;have ztW:∀x∈p0,x.block<W.heap.size:=by obtain⟨m,hm⟩:=k0;exact DataW.trod_lt m _ _ _ hm
 obtain⟨A0,n0,c0,rfl⟩:=okWide_slice zkO (zno 0 42 v0 rfl rfl);have zDg:=zyX zkO (zno 0 42 _ rfl rfl);have m0:=zHL zkO Tryz.underlying5 aT h0;clear Lw;have hX:=zz2 (A1:=A0) (A2:=none) (A3:=none) zaj zDg (λa e=>by cases e) (λa e=>by cases e);have hT:∀g,By aK g=true->(Kl A0 none none) g=true:=λg e=>by simp[Kl,e]
 have zqC:∀a,A0=some a->(Kl A0 none none) a.block=true:=λa e=>by simp[Kl,Xt,e]
 have zhV:xP (R0 (Kl A0 none none)) A0 A0:=zFm zqC;have zHJ:=zHs (S:=SF fT) hX zqC m0;have hJ:=zFG (w:=Ec (SF fT) (Kl A0 none none) W) (St:=St0 (Kl A0 none none)) (W0:=W) (Post:=λv w'=>v=.bool true/\Below W.heap.size W w') zHJ (zE5 hX hT (of_laid zaj)) (zy3 hX hT) (λR W' hk=>⟨rfl,hk.below⟩);have Gv:bL (SF fT) P0 (R0 (Kl A0 none none)) #[.slice A0 n0 c0] #[.slice A0 n0 c0]:=(bL.empty.push (.slice zhV));have Ht:(#[.slice A0 n0 c0]:Array Value)++Array.replicate ((Gm).ntmps-(#[.slice A0 n0 c0]:Array Value).size) aA=#[.slice A0 n0 c0,aA,aA,aA,aA,aA,aA,aA,aA,aA,aA,aA,aA,aA,aA,aA,aA,aA,aA,aA,aA,aA,aA,aA,aA,aA,aA,aA,aA,aA,aA,aA,aA,aA,aA,aA,aA,aA,aA,aA,aA,aA,aA,aA,aA,aA,aA,aA,aA,aA,aA,aA,aA,aA,aA,aA,aA,aA,aA,aA,aA,aA,aA,aA,aA,aA,aA,aA,aA,aA,aA,aA,aA,aA,aA,aA,aA,aA,aA,aA,aA,aA,aA,aA,aA,aA,aA,aA,aA,aA,aA,aA,aA,aA,aA,aA,aA,aA,aA,aA,aA,aA,aA,aA,aA,aA,aA,aA,aA,aA,aA,aA,aA,aA,aA,aA,aA,aA,aA,aA,aA,aA,aA,aA,aA,aA,aA,aA,aA,aA,aA,aA,aA,aA,aA,aA,aA,aA,aA,aA,aA,aA,aA,aA,aA,aA,aA,aA,aA,aA,aA,aA,aA,aA,aA,aA,aA,aA,aA,aA,aA,aA,aA,aA,aA,aA,aA,aA,aA,aA,aA,aA,aA,aA,aA,aA,aA,aA,aA,aA,aA,aA,aA,aA,aA,aA,aA]:=by
  have e:(Gm).ntmps=187:=rfl;rw[e];apply Array.ext';simp only[Array.toList_append,Array.toList_replicate,List.size_toArray,List.length_cons,List.length_nil];rfl
 have zrY:(Gm).body=some zbW:=rfl;rw[<-Ht] at hJ;have aX:=J.start (Post:=λv w'=>v=.bool true/\Below W.heap.size W w') lvF (f:=6) (fn:=Gm) (c:=zbW) aT aT zd0 zrY hX hT hG Gv hJ;obtain⟨M,last,o,w',t',e1,e2,e3,e4⟩:=aX;refine⟨M,last,o,w',t',e1,e2,e3,e4.mono λv hp=>zE8 ?_⟩;obtain⟨rfl,bel⟩:=hp;exact⟨_,_,_,[],_,[],Wx,trodAll_mk1 (shut_bool Tryz.underlying4 _),(trodAll_cons_mk (Below.trod zxf aT (of_decide_eq_true aT) k0 bel ztW) trodAll_mk0),rfl,bel.frame _,λh=>by cases h⟩
theorem closed:joinedFacts Tryz.pinned.checked.prog 6 Gm Rows.fnOneLineSpec Rows.fnOneLineRow=true:=by
 unfold joinedFacts;exact(oZ (oZ (oZ (oZ (oZ (oZ (oZ (oZ (oZ (oZ (oZ (oZ (oZ (oZ (oZ (oZ (oZ (oZ (oZ (oZ (oZ (oZ (oZ (oZ (oZ (oZ (oZ (oZ (oZ (oZ (oZ uK Facts.zxf) Facts.mapsRowed) uK) uK) uK) Facts.stops) uK) Facts.stopKnobs) uK) uK) uK) uK) uK) uK) uK) uK) uK) uK) uK) uK) uK) Facts.plainKeys) uK) Facts.stopsHeard) Facts.mayEnter) Facts.lifted) Facts.make) uK) uK) uK) uK)
theorem over:Rows.fnOneLineRow.holds Tryz.pinned (zpG Rows.fnOneLineSpec):=
 OpenClaim.holds_of_wide_leaving 6 Gm rfl rfl rfl rfl rfl rfl rfl ⟨rfl,rfl,rfl,rfl,rfl⟩ rfl rfl rfl rfl rfl funcNo zd0 closed
  (of_decide_eq_true aT) (by unfold Func.isWrapper;first|(rw[if_pos nA];kernel_rfl)|(rw[if_neg nA];exact⟨rfl,rfl⟩))
  (λos started H enc _=>lifted os started H enc)
theorem proved:Rows.FnOneLineCardSaid:=
 zEj .later Rows.fnOneLineCard.laidKinds Rows.fnOneLineCard.laidTests Rows.fnOneLineCard.stood.harness Rows.fnOneLineCard.stood.looks
  over aT fnOneLine_row_tie rfl ⟨rfl,rfl⟩ Facts.mainIs rfl
  (λf fn hf I5=>by
   obtain rfl:f=6:=cJ (funcNo.symm.trans hf)|>.symm;obtain rfl:fn=Tryz.f6:=(cJ (zd0.symm.trans I5)).symm;exact⟨Facts.looks,λj t ht=>by
    have hm:t∈Tryz.f6.params.toList:=by simpa using Array.mem_of_getElem? ht
    have sN:(Gm.params.toList.all λu=>!aK.wantsStandIn u)=true:=aT;exact(show aK.wantsStandIn t=false by simpa using List.all_eq_true.1 sN t hm)⟩)
  aT
#print axioms proved
end Go.Proofs.YtfcjiloojkjaeaaGreatDoor.fnOneLine
