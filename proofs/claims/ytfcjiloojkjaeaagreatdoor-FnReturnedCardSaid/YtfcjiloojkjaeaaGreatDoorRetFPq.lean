/-
  'FnReturned' answers true whatever the input, and its arguments read afterwards as before; the listed tables are tied to the program's text. No condition.
-/
import Derived.Test.YtfcjiloojkjaeaaGreatDoorTie
import Derived.Conc.LeavingOf
import Derived.Test.YtfcjiloojkjaeaaGreatDoorRetFPq6
set_option linter.all false
set_option maxHeartbeats 16000000
set_option maxRecDepth 100000
open Go renaming undef→aA
open Go.ChangeSpec renaming post_blind→zBr,witness_shaped→zAK
open Go.DataW.Whole renaming of_heap→zDE
open Go.OpenSpec renaming ofChange→zty
open Go.Proofs.Tryz renaming checked→wA,f9→Ez,func9→zeU,prog→aK,underlying42→zkz
open Go.Value renaming int→Is
open Option.some renaming inj→cO
namespace Go
theorem uK{P:Prop}(h:P:=by as_aux_lemma=>kernel_rfl):P:=h
end Go
namespace Go.Proofs.YtfcjiloojkjaeaaGreatDoor.fnReturned
open Go.RowKit Go.ChangeShapes Go.WideShapes Go.ChangeAt Go.Joins Go.Deep Go.Conc Go.Mt Go.Tt
def funcNo:Tryz.pinned.checked.prog.funcNamed "loop.example/channelboard/laws.FnReturned" =some 9:=aT
def laid0:aK.globals.size<(begin aK (λ_ _=>0) default).world.heap.size:=of_decide_eq_true aT
theorem zEH {W:World}(h:W.ShapedOpen aK):aK.globals.size<=W.heap.size:=by
 obtain⟨_,h2⟩:=h;obtain⟨o,_,h3,_⟩:=h2 aK.globals.size (Nat.le_refl _) laid0;exact Nat.le_of_lt (Array.getElem?_eq_some_iff.1 h3).1
variable {S:FuncId->Prop}
theorem vr_ints {K R:Pr}(l:List Int):VR S K R (.agg (l.map (Is .i64)).toArray) (.agg (l.map (Is .i64)).toArray):=
 .agg rfl λi u v h1 h2=>by
  rw[h1] at h2;injection h2 with h2;subst h2;simp at h1;obtain⟨a,_,rfl⟩:=h1;exact .int _ _
theorem lifted (os:Os)(started:os.Started)(H:Type)(enc:TypeId×Value->H):
 ReturnsInLeavingWide {} wA os 9 .any (λw args=>(Rows.fnReturnedSpec.pre enc aK Ez [] false w args/\laidMetH aK Sq w)/\sizedMet enc aK Ez (zty Rows.fnReturnedSpec) false w args)
  (Rows.fnReturnedSpec.post enc aK Ez false true false false):=by
 refine returnsInLeavingWide_of_good (C:=wA) own started
  (zAK (enc:=enc) (C:=wA) (os:=os) (X:=λw _=>laidMetH aK Sq w) false (World.doorLaid aK 400 os) #[.slice none 0 0] 8 rfl (World.shaped_of_RefB aT aT) aT aT aT (door_met os _)) ?_
 intro w tape i _ zqY _ bS zm3 _;obtain⟨_,_,_,fn',zjr,_,_,_,_,zp2⟩:=bS;obtain rfl:fn'=Tryz.f9:=cO (zjr.symm.trans zeU);obtain⟨⟨⟨ds,gs,before,hw,hc⟩,hL⟩,hz⟩:=zm3;have hG:=zEH zqY;have H3:=zDE (w':=w.forCall tape i) Lz hw;have zc7:laidMetH aK Sq (w.forCall tape i):=hL.of_heap Lz;clear hw hz zqY hc hL;obtain⟨ib,args,iv⟩:=i;generalize zhh:w.forCall tape ⟨ib,args,iv⟩=W at*;have zkJ:∀(j:Nat) t v,Ez.params[j]? =some t->args[j]? =some v->Value.okWide aK W .any w.heap.size t v:=zp2;have hW:DataW.Whole enc aK Ez.params.toList Rows.fnReturnedSpec.vars false W args.toList ds gs before:=H3;clear zp2 H3;have Zz:=hW;obtain⟨p,q,Kq,hV,rfl,nZ,lE⟩:=hW;have hA:DataW.TrodAll enc aK W 0 (λ_=>true) true Ez.params.toList args.toList ds p:=Kq;rw[Tryz.params9] at hA zkJ;obtain⟨v0,zK2,d0,zKV,p0,q0,wK,rfl,rfl,h0,r0⟩:=trodAll_cons hA;obtain⟨rfl,rfl,rfl⟩:=trodAll_nil r0;obtain rfl:args=#[v0]:=by cases args;simp_all
 obtain⟨rfl,rfl⟩:=trodVars_none hV;have k0:=h0;have zxX:∀x∈p0,x.block<W.heap.size:=by obtain⟨m,hm⟩:=k0;exact DataW.trod_lt m _ _ _ hm
 obtain⟨A0,n0,c0,rfl⟩:=okWide_slice zkz (zkJ 0 42 v0 rfl rfl);have zGl:=zy0 zkz (zkJ 0 42 _ rfl rfl);have m0:=zA5 zkz Tryz.underlying5 aT h0;clear Kq;have hX:=zDF (A1:=A0) (A2:=none) (A3:=none) zc7 zGl (λa e=>by cases e) (λa e=>by cases e);have hT:∀g,Bp aK g=true->(Kx A0 none none) g=true:=λg e=>by simp[Kx,e]
 have zq3:∀a,A0=some a->(Kx A0 none none) a.block=true:=λa e=>by simp[Kx,Z5,e]
 have zjR:xX (R0 (Kx A0 none none)) A0 A0:=zG0 zq3;have zDs:=zDy (S:=SF fU) hX zq3 m0;have hJ:=zGt (w:=Ei (SF fU) (Kx A0 none none) W) (St:=St0 (Kx A0 none none)) (W0:=W) (Post:=λv w'=>v=.bool true/\Below W.heap.size W w') zDs (zC6 hX hT (of_laid zc7)) (zyY hX hT) (λR W' hk=>⟨rfl,hk.below⟩);have Gw:bM (SF fU) P0 (R0 (Kx A0 none none)) #[.slice A0 n0 c0] #[.slice A0 n0 c0]:=(bM.empty.push (.slice zjR));have Eg:(#[.slice A0 n0 c0]:Array Value)++Array.replicate ((Ez).ntmps-(#[.slice A0 n0 c0]:Array Value).size) aA=#[.slice A0 n0 c0,aA,aA,aA,aA,aA,aA,aA,aA,aA,aA,aA,aA,aA,aA,aA,aA,aA,aA,aA,aA,aA,aA,aA,aA,aA,aA,aA,aA,aA,aA,aA,aA,aA,aA,aA,aA,aA,aA,aA,aA,aA,aA,aA,aA,aA,aA,aA,aA,aA,aA,aA,aA,aA,aA,aA,aA,aA,aA,aA,aA,aA,aA,aA,aA,aA,aA,aA,aA,aA,aA,aA,aA,aA,aA,aA,aA,aA,aA,aA,aA,aA,aA,aA,aA,aA,aA,aA,aA,aA,aA,aA,aA,aA,aA,aA,aA,aA,aA,aA,aA,aA,aA,aA,aA,aA,aA,aA,aA,aA,aA,aA,aA,aA,aA,aA,aA,aA,aA,aA,aA,aA,aA,aA,aA,aA,aA,aA,aA,aA,aA,aA,aA,aA,aA,aA,aA,aA,aA,aA,aA,aA,aA,aA,aA,aA,aA,aA,aA,aA,aA,aA,aA,aA,aA,aA]:=by
  have e:(Ez).ntmps=156:=rfl;rw[e];apply Array.ext';simp only[Array.toList_append,Array.toList_replicate,List.size_toArray,List.length_cons,List.length_nil];rfl
 have zps:(Ez).body=some Yp:=rfl;rw[<-Eg] at hJ;have aY:=J.start (Post:=λv w'=>v=.bool true/\Below W.heap.size W w') lvF (f:=9) (fn:=Ez) (c:=Yp) aT aT zeU zps hX hT hG Gw hJ;obtain⟨M,last,o,w',t',e1,e2,e3,e4⟩:=aY;refine⟨M,last,o,w',t',e1,e2,e3,e4.mono λv hp=>zBr ?_⟩;obtain⟨rfl,bel⟩:=hp;exact⟨_,_,_,[],_,[],Zz,trodAll_mk1 (shut_bool Tryz.underlying4 _),(trodAll_cons_mk (Below.trod ztw aT (of_decide_eq_true aT) k0 bel zxX) trodAll_mk0),rfl,bel.frame _,λh=>by cases h⟩
theorem closed:joinedFacts Tryz.pinned.checked.prog 9 Ez Rows.fnReturnedSpec Rows.fnReturnedRow=true:=by
 unfold joinedFacts;exact(o7 (o7 (o7 (o7 (o7 (o7 (o7 (o7 (o7 (o7 (o7 (o7 (o7 (o7 (o7 (o7 (o7 (o7 (o7 (o7 (o7 (o7 (o7 (o7 (o7 (o7 (o7 (o7 (o7 (o7 (o7 uK Facts.ztw) Facts.mapsRowed) uK) uK) uK) Facts.stops) uK) Facts.stopKnobs) uK) uK) uK) uK) uK) uK) uK) uK) uK) uK) uK) uK) uK) Facts.plainKeys) uK) Facts.stopsHeard) Facts.mayEnter) Facts.lifted) Facts.make) uK) uK) uK) uK)
theorem over:Rows.fnReturnedRow.holds Tryz.pinned (zty Rows.fnReturnedSpec):=
 OpenClaim.holds_of_wide_leaving 9 Ez rfl rfl rfl rfl rfl rfl rfl ⟨rfl,rfl,rfl,rfl,rfl⟩ rfl rfl rfl rfl rfl funcNo zeU closed
  (of_decide_eq_true aT) (by unfold Func.isWrapper;first|(rw[if_pos vT];kernel_rfl)|(rw[if_neg vT];exact⟨rfl,rfl⟩))
  (λos started H enc _=>lifted os started H enc)
theorem proved:Rows.FnReturnedCardSaid:=
 zBN .later Rows.fnReturnedCard.laidKinds Rows.fnReturnedCard.laidTests Rows.fnReturnedCard.stood.harness Rows.fnReturnedCard.stood.looks
  over aT fnReturned_row_tie rfl ⟨rfl,rfl⟩ Facts.mainIs rfl
  (λf fn hf Ka=>by
   obtain rfl:f=9:=cO (funcNo.symm.trans hf)|>.symm;obtain rfl:fn=Tryz.f9:=(cO (zeU.symm.trans Ka)).symm;exact⟨Facts.looks,λj t ht=>by
    have hm:t∈Tryz.f9.params.toList:=by simpa using Array.mem_of_getElem? ht
    have tF:(Ez.params.toList.all λu=>!aK.wantsStandIn u)=true:=aT;exact(show aK.wantsStandIn t=false by simpa using List.all_eq_true.1 tF t hm)⟩)
  aT
#print axioms proved
end Go.Proofs.YtfcjiloojkjaeaaGreatDoor.fnReturned
