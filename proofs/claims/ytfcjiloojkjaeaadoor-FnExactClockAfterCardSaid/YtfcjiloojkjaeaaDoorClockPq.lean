/-
  'FnExactClockAfter' answers true whatever the input, and its arguments read afterwards as before; the listed tables are tied to the program's text. No condition.
-/
import Derived.Test.YtfcjiloojkjaeaaDoorTie
import Derived.Conc.LeavingOf
import Derived.Test.YtfcjiloojkjaeaaDoorClockPq6
set_option linter.all false
set_option maxHeartbeats 16000000
set_option maxRecDepth 100000
open Go renaming trodAll_cons_mk→zoQ,undef→aA
open Go.ChangeSpec renaming post_blind→zz3,witness_shaped→zH0
open Go.DataW renaming trod_int→Yj,trod_lt→zpU
open Go.DataW.Whole renaming of_heap→zAJ
open Go.OpenSpec renaming ofChange→znz
open Go.Proofs.Tryd renaming checked→vD,f3→Es,func3→zgx,prog→aK,underlying24→zkE,underlying3→zck
open Go.RowKit.Below renaming trod→zuI
open Go.Value renaming int→Oi
open Option.some renaming inj→cD
namespace Go
theorem tP{P:Prop}(h:P:=by as_aux_lemma=>kernel_rfl):P:=h
end Go
namespace Go.Proofs.YtfcjiloojkjaeaaDoor.fnExactClockAfter
open Go.RowKit Go.ChangeShapes Go.WideShapes Go.ChangeAt Go.Joins Go.Deep Go.Conc Go.Mt Go.Tt
def funcNo:Tryd.pinned.checked.prog.funcNamed "loop.example/channelboard/laws.FnExactClockAfter" =some 3:=aS
def laid0:aK.globals.size<(begin aK (λ_ _=>0) default).world.heap.size:=of_decide_eq_true aS
theorem zz2 {W:World}(h:W.ShapedOpen aK):aK.globals.size<=W.heap.size:=by
 obtain⟨_,h2⟩:=h;obtain⟨o,_,h3,_⟩:=h2 aK.globals.size (Nat.le_refl _) laid0;exact Nat.le_of_lt (Array.getElem?_eq_some_iff.1 h3).1
variable {S:FuncId->Prop}
theorem zz1 {K R:Pr}(l:List Int):VR S K R (.agg (l.map (Oi .i64)).toArray) (.agg (l.map (Oi .i64)).toArray):=
 .agg rfl λi u v h1 h2=>by
  rw[h1] at h2;injection h2 with h2;subst h2;simp at h1;obtain⟨a,_,rfl⟩:=h1;exact .int _ _
theorem lifted (os:Os)(started:os.Started)(H:Type)(enc:TypeId×Value->H):
 ReturnsInLeavingWide {} vD os 3 .any (λw args=>(Rows.fnExactClockAfterSpec.pre enc aK Es [] false w args/\laidMetH aK Tu w)/\sizedMet enc aK Es (znz Rows.fnExactClockAfterSpec) false w args)
  (Rows.fnExactClockAfterSpec.post enc aK Es false true false false):=by
 refine returnsInLeavingWide_of_good (C:=vD) own started
  (zH0 (enc:=enc) (C:=vD) (os:=os) (X:=λw _=>laidMetH aK Tu w) false (World.doorLaid aK 400 os) #[.agg #[.int .i64 0,.int .i64 0,.int .i64 0],.slice none 0 0] 8 rfl (World.shaped_of_RefB aS aS) aS aS aS (zH1 os _)) ?_
 intro w tape i _ zrn _ bV zhd _;obtain⟨_,_,_,fn',Wa,_,_,_,_,zol⟩:=bV;obtain rfl:fn'=Tryd.f3:=cD (Wa.symm.trans zgx);obtain⟨⟨⟨ds,gs,before,hw,hc⟩,hL⟩,hz⟩:=zhd;have hG:=zz2 zrn;have N9:=zAJ (w':=w.forCall tape i) Le hw;have zaL:laidMetH aK Tu (w.forCall tape i):=hL.of_heap Le;clear hw hz zrn hc hL;obtain⟨ib,args,iv⟩:=i;generalize zfu:w.forCall tape ⟨ib,args,iv⟩=W at*;have zc6:∀(j:Nat) t v,Es.params[j]? =some t->args[j]? =some v->Value.okWide aK W .any w.heap.size t v:=zol;have hW:DataW.Whole enc aK Es.params.toList Rows.fnExactClockAfterSpec.vars false W args.toList ds gs before:=N9;clear zol N9;have Vz:=hW;obtain⟨p,q,Jg,hV,rfl,mH,lD⟩:=hW;have hA:DataW.TrodAll enc aK W 0 (λ_=>true) true Es.params.toList args.toList ds p:=Jg;rw[Tryd.params3] at hA zc6;obtain⟨v0,zJD,d0,zJZ,p0,q0,rR,rfl,rfl,h0,r0⟩:=trodAll_cons hA;obtain⟨v1,zLr,d1,zMF,p1,q1,rfl,rfl,rfl,h1,r1⟩:=trodAll_cons r0;obtain⟨rfl,rfl,rfl⟩:=trodAll_nil r1;obtain rfl:args=#[v0,v1]:=by cases args;simp_all
 obtain⟨rfl,rfl⟩:=trodVars_none hV;have k0:=h0;have zji:∀x∈p0,x.block<W.heap.size:=by obtain⟨m,hm⟩:=k0;exact zpU m _ _ _ hm
 obtain⟨b0,b1,b2,y0,y1,y2,n0,rfl,rfl,rfl,Tz,Oy,zzj⟩:=open_agg3 Tryd.underlying23 aS aS (zc6 0 23 v0 rfl rfl) h0;obtain⟨o0,e0,rfl,zL5⟩:=Yj zck Tz;obtain⟨o1,e1,rfl,zKC⟩:=Yj zck Oy;obtain⟨o2,e2,rfl,zK1⟩:=Yj zck zzj;simp at e0 e1 e2;subst e0 e1 e2;have k1:=h1;have zGE:∀x∈p1,x.block<W.heap.size:=by obtain⟨m,hm⟩:=k1;exact zpU m _ _ _ hm
 obtain⟨A1,n1,c1,rfl⟩:=okWide_slice zkE (zc6 1 24 v1 rfl rfl);have zFE:=zJu zkE (zc6 1 24 _ rfl rfl);obtain⟨zJX,m1,zyP⟩:=zAV zkE aS Tryd.underlying35 rfl rfl rfl Tryd.underlying9 zck zck aS aS aS h1;clear Jg;have hX:=zA9 (A1:=A1) (A2:=none) (A3:=none) zaL zFE (λa e=>by cases e) (λa e=>by cases e);have hT:∀g,At aK g=true->(J2 A1 none none) g=true:=λg e=>by simp[J2,e]
 have zqu:∀a,A1=some a->(J2 A1 none none) a.block=true:=λa e=>by simp[J2,Ye,e]
 have zfp:wX (R0 (J2 A1 none none)) A1 A1:=zHF zqu;have hJ:=zIL (o:=⟨o0,o1,o2⟩) (w:=Bp (SF fZ) (J2 A1 none none) W) (St:=St0 (J2 A1 none none)) (W0:=W) (Post:=λv w'=>v=.bool true/\Below W.heap.size W w') (zEN hX zqu m1 zAl) zyP (zxI hX hT (zC6 zaL)) (zAq hX hT) (λR W' hk=>⟨rfl,hk.below⟩);have Be:bK (SF fZ) P0 (R0 (J2 A1 none none)) #[.agg #[.int .i64 o0,.int .i64 o1,.int .i64 o2],.slice A1 n1 c1] #[.agg #[.int .i64 o0,.int .i64 o1,.int .i64 o2],.slice A1 n1 c1]:=((bK.empty.push (zz1 [o0,o1,o2])).push (.slice zfp));have Aw:(#[.agg #[.int .i64 o0,.int .i64 o1,.int .i64 o2],.slice A1 n1 c1]:Array Value)++Array.replicate ((Es).ntmps-(#[.agg #[.int .i64 o0,.int .i64 o1,.int .i64 o2],.slice A1 n1 c1]:Array Value).size) aA=#[.agg #[.int .i64 o0,.int .i64 o1,.int .i64 o2],.slice A1 n1 c1,aA,aA,aA,aA,aA,aA,aA,aA,aA,aA,aA,aA,aA,aA,aA,aA,aA,aA,aA,aA,aA,aA,aA,aA,aA,aA,aA,aA,aA,aA,aA]:=by
  have e:(Es).ntmps=33:=rfl;rw[e];apply Array.ext';simp only[Array.toList_append,Array.toList_replicate,List.size_toArray,List.length_cons,List.length_nil];rfl
 have zrX:(Es).body=some zfs:=rfl;rw[<-Aw] at hJ;have aX:=J.start (Post:=λv w'=>v=.bool true/\Below W.heap.size W w') lvF (f:=3) (fn:=Es) (c:=zfs) aS aS zgx zrX hX hT hG Be hJ;obtain⟨M,last,o,w',t',e1,e2,e3,e4⟩:=aX;refine⟨M,last,o,w',t',e1,e2,e3,e4.mono λv hp=>zz3 ?_⟩;obtain⟨rfl,bel⟩:=hp;exact⟨_,_,_,[],_,[],Vz,trodAll_mk1 (shut_bool Tryd.underlying4 _),(zoQ (zuI ziJ aS (of_decide_eq_true aS) k0 bel zji) (zoQ (zuI ziJ aS (of_decide_eq_true aS) k1 bel zGE) trodAll_mk0)),rfl,bel.frame _,λh=>by cases h⟩
theorem closed:joinedFacts Tryd.pinned.checked.prog 3 Es Rows.fnExactClockAfterSpec Rows.fnExactClockAfterRow=true:=by
 unfold joinedFacts;exact(oT (oT (oT (oT (oT (oT (oT (oT (oT (oT (oT (oT (oT (oT (oT (oT (oT (oT (oT (oT (oT (oT (oT (oT (oT (oT (oT (oT (oT (oT (oT tP Facts.ziJ) Facts.mapsRowed) tP) tP) tP) Facts.stops) tP) Facts.stopKnobs) tP) tP) tP) tP) tP) tP) tP) tP) tP) tP) tP) tP) tP) Facts.plainKeys) tP) Facts.stopsHeard) Facts.mayEnter) Facts.lifted) Facts.make) tP) tP) tP) tP)
theorem over:Rows.fnExactClockAfterRow.holds Tryd.pinned (znz Rows.fnExactClockAfterSpec):=
 OpenClaim.holds_of_wide_leaving 3 Es rfl rfl rfl rfl rfl rfl rfl ⟨rfl,rfl,rfl,rfl,rfl⟩ rfl rfl rfl rfl rfl funcNo zgx closed
  (of_decide_eq_true aS) (by unfold Func.isWrapper;first|(rw[if_pos Fe];kernel_rfl)|(rw[if_neg Fe];exact⟨rfl,rfl⟩))
  (λos started H enc _=>lifted os started H enc)
theorem proved:Rows.FnExactClockAfterCardSaid:=
 zAx .later Rows.fnExactClockAfterCard.laidKinds Rows.fnExactClockAfterCard.laidTests Rows.fnExactClockAfterCard.stood.harness Rows.fnExactClockAfterCard.stood.looks
  over aS fnExactClockAfter_row_tie rfl ⟨rfl,rfl⟩ Facts.mainIs rfl
  (λf fn hf wJ=>by
   obtain rfl:f=3:=cD (funcNo.symm.trans hf)|>.symm;obtain rfl:fn=Tryd.f3:=(cD (zgx.symm.trans wJ)).symm;exact⟨Facts.looks,λj t ht=>by
    have hm:t∈Tryd.f3.params.toList:=by simpa using Array.mem_of_getElem? ht
    have rU:(Es.params.toList.all λu=>!aK.wantsStandIn u)=true:=aS;exact(show aK.wantsStandIn t=false by simpa using List.all_eq_true.1 rU t hm)⟩)
  aS
#print axioms proved
end Go.Proofs.YtfcjiloojkjaeaaDoor.fnExactClockAfter
