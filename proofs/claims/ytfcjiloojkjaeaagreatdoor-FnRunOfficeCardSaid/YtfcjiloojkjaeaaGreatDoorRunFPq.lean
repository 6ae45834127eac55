/-
  'FnRunOffice' answers true whatever the input, and its arguments read afterwards as before; the listed tables are tied to the program's text. No condition.
-/
import Derived.Test.YtfcjiloojkjaeaaGreatDoorTie
import Derived.Conc.LeavingOf
import Derived.Test.YtfcjiloojkjaeaaGreatDoorRunFPq6
set_option linter.all false
set_option maxHeartbeats 16000000
set_option maxRecDepth 100000
open Go renaming undef→aA
open Go.ChangeSpec renaming post_blind→zFO,witness_shaped→zzK
open Go.DataW.Whole renaming of_heap→zAg
open Go.OpenSpec renaming ofChange→zvy
open Go.Proofs.Tryz renaming checked→uB,f7→Gb,func7→zgK,prog→aK,underlying42→zit
open Go.Value renaming int→Lx
open Option.some renaming inj→cH
namespace Go
theorem uZ{P:Prop}(h:P:=by as_aux_lemma=>kernel_rfl):P:=h
end Go
namespace Go.Proofs.YtfcjiloojkjaeaaGreatDoor.fnRunOffice
open Go.RowKit Go.ChangeShapes Go.WideShapes Go.ChangeAt Go.Joins Go.Deep Go.Conc Go.Mt Go.Tt
def funcNo:Tryz.pinned.checked.prog.funcNamed "loop.example/channelboard/laws.FnRunOffice" =some 7:=aP
def laid0:aK.globals.size<(begin aK (λ_ _=>0) default).world.heap.size:=of_decide_eq_true aP
theorem zIA {W:World}(h:W.ShapedOpen aK):aK.globals.size<=W.heap.size:=by
 obtain⟨_,h2⟩:=h;obtain⟨o,_,h3,_⟩:=h2 aK.globals.size (Nat.le_refl _) laid0;exact Nat.le_of_lt (Array.getElem?_eq_some_iff.1 h3).1
variable {S:FuncId->Prop}
theorem vr_ints {K R:Pr}(l:List Int):VR S K R (.agg (l.map (Lx .i64)).toArray) (.agg (l.map (Lx .i64)).toArray):=
 .agg rfl λi u v h1 h2=>by
  rw[h1] at h2;injection h2 with h2;subst h2;simp at h1;obtain⟨a,_,rfl⟩:=h1;exact .int _ _
theorem lifted (os:Os)(started:os.Started)(H:Type)(enc:TypeId×Value->H):
 ReturnsInLeavingWide {} uB os 7 .any (λw args=>(Rows.fnRunOfficeSpec.pre enc aK Gb [] false w args/\laidMetH aK S7 w)/\sizedMet enc aK Gb (zvy Rows.fnRunOfficeSpec) false w args)
  (Rows.fnRunOfficeSpec.post enc aK Gb false true false false):=by
 refine returnsInLeavingWide_of_good (C:=uB) own started
  (zzK (enc:=enc) (C:=uB) (os:=os) (X:=λw _=>laidMetH aK S7 w) false (World.doorLaid aK 400 os) #[.slice none 0 0] 8 rfl (World.shaped_of_RefB aP aP) aP aP aP (door_met os _)) ?_
 intro w tape i _ ztV _ bM zmm _;obtain⟨_,_,_,fn',Vk,_,_,_,_,zoP⟩:=bM;obtain rfl:fn'=Tryz.f7:=cH (Vk.symm.trans zgK);obtain⟨⟨⟨ds,gs,before,hw,hc⟩,hL⟩,hz⟩:=zmm;have hG:=zIA ztV;have H9:=zAg (w':=w.forCall tape i) Kg hw;have zak:laidMetH aK S7 (w.forCall tape i):=hL.of_heap Kg;clear hw hz ztV hc hL;obtain⟨ib,args,iv⟩:=i;generalize zfX:w.forCall tape ⟨ib,args,iv⟩=W at*;have zlo:∀(j:Nat) t v,Gb.params[j]? =some t->args[j]? =some v->Value.okWide aK W .any w.heap.size t v:=zoP;have hW:DataW.Whole enc aK Gb.params.toList Rows.fnRunOfficeSpec.vars false W args.toList ds gs before:=H9;clear zoP H9;have Yg:=hW;obtain⟨p,q,Mg,hV,rfl,oH,lK⟩:=hW;have hA:DataW.TrodAll enc aK W 0 (λ_=>true) true Gb.params.toList args.toList ds p:=Mg;rw[Tryz.params7] at hA zlo;obtain⟨v0,zJv,d0,zL0,p0,q0,rS,rfl,rfl,h0,r0⟩:=trodAll_cons hA;obtain⟨rfl,rfl,rfl⟩:=trodAll_nil r0;obtain rfl:args=#[v0]:=by cases args;simp_all
 obtain⟨rfl,rfl⟩:=trodVars_none hV;have k0:=h0;have zo5:∀x∈p0,x.block<W.heap.size:=by obtain⟨m,hm⟩:=k0;exact DataW.trod_lt m _ _ _ hm
 obtain⟨A0,n0,c0,rfl⟩:=okWide_slice zit (zlo 0 42 v0 rfl rfl);have zIH:=zHJ zit (zlo 0 42 _ rfl rfl);have m0:=zIw zit Tryz.underlying5 aP h0;clear Mg;have hX:=zGL (A1:=A0) (A2:=none) (A3:=none) zak zIH (λa e=>by cases e) (λa e=>by cases e);have hT:∀g,Ba aK g=true->(K8 A0 none none) g=true:=λg e=>by simp[K8,e]
 have zo6:∀a,A0=some a->(K8 A0 none none) a.block=true:=λa e=>by simp[K8,V9,e]
 have ziB:xF (R0 (K8 A0 none none)) A0 A0:=zEA zo6;have zy2:=zBu (S:=SF fW) hX zo6 m0;have hJ:=zCM (w:=Ea (SF fW) (K8 A0 none none) W) (St:=St0 (K8 A0 none none)) (W0:=W) (Post:=λv w'=>v=.bool true/\Below W.heap.size W w') zy2 (zC3 hX hT (of_laid zak)) (zEm hX hT) (λR W' hk=>⟨rfl,hk.below⟩);have Dp:bO (SF fW) P0 (R0 (K8 A0 none none)) #[.slice A0 n0 c0] #[.slice A0 n0 c0]:=(bO.empty.push (.slice ziB));have An:(#[.slice A0 n0 c0]:Array Value)++Array.replicate ((Gb).ntmps-(#[.slice A0 n0 c0]:Array Value).size) aA=#[.slice A0 n0 c0,aA,aA,aA,aA,aA,aA,aA,aA,aA,aA,aA,aA,aA,aA,aA,aA,aA,aA,aA,aA,aA,aA,aA,aA,aA,aA,aA,aA,aA,aA,aA,aA,aA,aA,aA,aA,aA,aA,aA,aA,aA,aA,aA,aA,aA,aA,aA,aA,aA,aA,aA,aA,aA,aA,aA,aA,aA,aA,aA,aA,aA,aA,aA,aA,aA,aA,aA,aA,aA,aA,aA,aA,aA,aA,aA,aA,aA,aA,aA,aA,aA,aA,aA,aA,aA,aA,aA,aA,aA,aA,aA,aA,aA,aA,aA,aA,aA,aA,aA,aA,aA,aA,aA,aA,aA,aA,aA,aA,aA,aA,aA,aA,aA,aA,aA,aA,aA,aA,aA,aA,aA,aA,aA,aA,aA,aA,aA,aA,aA,aA,aA,aA,aA,aA,aA,aA,aA,aA,aA,aA,aA,aA,aA]:=by
  have e:(Gb).ntmps=144:=rfl;rw[e];apply Array.ext';simp only[Array.toList_append,Array.toList_replicate,List.size_toArray,List.length_cons,List.length_nil];rfl
 have zv8:(Gb).body=some U4:=rfl;rw[<-An] at hJ;have aY:=J.start (Post:=λv w'=>v=.bool true/\Below W.heap.size W w') lvF (f:=7) (fn:=Gb) (c:=U4) aP aP zgK zv8 hX hT hG Dp hJ;obtain⟨M,last,o,w',t',e1,e2,e3,e4⟩:=aY;refine⟨M,last,o,w',t',e1,e2,e3,e4.mono λv hp=>zFO ?_⟩;obtain⟨rfl,bel⟩:=hp;exact⟨_,_,_,[],_,[],Yg,trodAll_mk1 (shut_bool Tryz.underlying4 _),(trodAll_cons_mk (Below.trod zuK aP (of_decide_eq_true aP) k0 bel zo5) trodAll_mk0),rfl,bel.frame _,λh=>by cases h⟩
theorem closed:joinedFacts Tryz.pinned.checked.prog 7 Gb Rows.fnRunOfficeSpec Rows.fnRunOfficeRow=true:=by
 unfold joinedFacts;exact(pF (pF (pF (pF (pF (pF (pF (pF (pF (pF (pF (pF (pF (pF (pF (pF (pF (pF (pF (pF (pF (pF (pF (pF (pF (pF (pF (pF (pF (pF (pF uZ Facts.zuK) Facts.mapsRowed) uZ) uZ) uZ) Facts.stops) uZ) Facts.stopKnobs) uZ) uZ) uZ) uZ) uZ) uZ) uZ) uZ) uZ) uZ) uZ) uZ) uZ) Facts.plainKeys) uZ) Facts.stopsHeard) Facts.mayEnter) Facts.lifted) Facts.make) uZ) uZ) uZ) uZ)
theorem over:Rows.fnRunOfficeRow.holds Tryz.pinned (zvy Rows.fnRunOfficeSpec):=
 OpenClaim.holds_of_wide_leaving 7 Gb rfl rfl rfl rfl rfl rfl rfl ⟨rfl,rfl,rfl,rfl,rfl⟩ rfl rfl rfl rfl rfl funcNo zgK closed
  (of_decide_eq_true aP) (by unfold Func.isWrapper;first|(rw[if_pos Hx];kernel_rfl)|(rw[if_neg Hx];exact⟨rfl,rfl⟩))
  (λos started H enc _=>lifted os started H enc)
theorem proved:Rows.FnRunOfficeCardSaid:=
 zFx .later Rows.fnRunOfficeCard.laidKinds Rows.fnRunOfficeCard.laidTests Rows.fnRunOfficeCard.stood.harness Rows.fnRunOfficeCard.stood.looks
  over aP fnRunOffice_row_tie rfl ⟨rfl,rfl⟩ Facts.mainIs rfl
  (λf fn hf Al=>by
   obtain rfl:f=7:=cH (funcNo.symm.trans hf)|>.symm;obtain rfl:fn=Tryz.f7:=(cH (zgK.symm.trans Al)).symm;exact⟨Facts.looks,λj t ht=>by
    have hm:t∈Tryz.f7.params.toList:=by simpa using Array.mem_of_getElem? ht
    have sY:(Gb.params.toList.all λu=>!aK.wantsStandIn u)=true:=aP;exact(show aK.wantsStandIn t=false by simpa using List.all_eq_true.1 sY t hm)⟩)
  aP
#print axioms proved
end Go.Proofs.YtfcjiloojkjaeaaGreatDoor.fnRunOffice
